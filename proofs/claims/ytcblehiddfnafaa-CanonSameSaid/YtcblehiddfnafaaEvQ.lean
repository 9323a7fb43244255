/- Engine, part O: regions that draw their order: facts about the checks. -/
import Derived.Test.YtcblehiddfnafaaEvN
namespace Go.Ev
theorem a4Z{x:Nat}: ∀{l:List Nat},a8z x l=true↔x∈l
 | []=>by simp[a8z]
 |y::l=>by
  simp only[a8z]
  cases h:Nat.beq x y with
  |true=>simp[Nat.eq_of_beq_eq_true h]
  |false=>
   have:x≠y:=fun e=>by rw[e]at h;simp at h
   simp[this,a4Z (l:=l)]
theorem a3e{x:Nat}{l:List Nat}:a8z x l=false↔x∉l:=by
 rw[←a4Z];simp
theorem a8f{p:Nat→Bool}: ∀{l:List Nat},b6V p l=true↔ ∀x∈l,p x=true
 | []=>by simp[b6V]
 |y::l=>by
  simp only[b6V]
  cases h:p y with
  |true=>simp[h,a8f (l:=l)]
  |false=>simp[h]
theorem a1n: ∀{n s i:Nat},i∈upto n s↔s≤i∧i<s+n
 |0,s,i=>by simp[upto]
 |n+1,s,i=>by
  simp only[upto,List.mem_cons,a1n (n:=n)]
  omega
theorem b1M(e:Edge):a1M e=Region.binds .any e:=by
 unfold a1M Region.binds
 cases e.ground<;>rfl
theorem a8F{l:List Nat}{i:Nat}:b4h l i=(l[i]?).getD 0:=by
 unfold b4h
 rw[a1H]
 cases l[i]? <;>rfl
theorem a3O{acc:List Nat}{i:Nat}: ∀{es:List Edge},Nat.testBit (a1p acc es) i=true→ ∃e∈es,a1M e=true∧(i=e.on∨Nat.testBit (b4h acc e.on) i=true)
 | [],h=>by simp[a1p]at h
 |e::r,h=>by
  simp only[a1p]at h
  cases hb:a1M e with
  |true=>
   rw[hb]at h
   simp only[Nat.testBit_or,Bool.or_eq_true,Nat.testBit_two_pow,decide_eq_true_eq]at h
   rcases h with(h|h)|h
   ·exact⟨e,by simp,hb,.inl h.symm⟩
   ·exact⟨e,by simp,hb,.inr h⟩
   ·obtain⟨e',h1,h2⟩:=a3O h;exact⟨e',by simp[h1],h2⟩
  |false=>
   rw[hb]at h
   obtain⟨e',h1,h2⟩:=a3O h;exact⟨e',by simp[h1],h2⟩
theorem a7Q: ∀(l:List Oper) (acc:List Nat),(∃t,a3m l acc=acc++t∧t.length=l.length)∧ ∀j o,l[j]? =some o→ ∃acc' t',a3m l acc=acc'++t'∧acc'.length=acc.length+j∧b4h (a3m l acc) (acc.length+j)=a1p acc' o.after.toList
 | [],acc=>⟨⟨[],by simp[a3m]⟩,fun j o h=>by simp at h⟩
 |o::l,acc=>by
  obtain⟨⟨t,h1,h2⟩,h3⟩:=a7Q l (acc++ [a1p acc o.after.toList])
  refine⟨⟨a1p acc o.after.toList::t,by simp[a3m,h1],by simp[h2]⟩,fun j o' h=> ?_⟩
  cases j with
  |zero=>
   simp only[List.getElem?_cons_zero,Option.some.injEq]at h
   subst h
   refine⟨acc,a1p acc o.after.toList::t,by simp[a3m,h1],by simp, ?_⟩
   simp[a3m,h1,a8F]
  |succ j=>
   simp only[List.getElem?_cons_succ]at h
   obtain⟨acc',t',k1,k2,k3⟩:=h3 j o' h
   refine⟨acc',t',by simp[a3m,k1],by simp at k2;omega, ?_⟩
   simp only[List.length_append,List.length_singleton]at k3
   rw[show acc.length+(j+1)=acc.length+1+j by omega]
   simp only[a3m]
   exact k3
theorem a7L{all:List Oper}{L:Nat→Prop}(hL: ∀j o,L j→a0k all j=some o→ ∀e∈o.after.toList,a1M e=true→L e.on):
  ∀(j i:Nat),rch (a3m all []) i j=true→(∀o,a0k all j=some o→ ∀e∈o.after.toList,a1M e=true→L e.on)→L i:=by
 intro j
 induction j using Nat.strongRecOn with
 |ind j ih=>
  intro i hr he
  obtain⟨⟨t,h1,h2⟩,h3⟩:=a7Q all []
  simp only[List.nil_append,List.length_nil,Nat.zero_add]at h1 h3
  unfold rch at hr
  cases ho:all[j]? with
  |none=>
   have:(a3m all [])[j]? =none:=by
    rw[h1,List.getElem?_eq_none_iff,h2]
    exact List.getElem?_eq_none_iff.1 ho
   rw[a8F,this]at hr
   simp at hr
  |some o=>
   obtain⟨acc',t',k1,k2,k3⟩:=h3 j o ho
   rw[k3]at hr
   obtain⟨e,m1,m2,m3⟩:=a3O hr
   have hL':=he o (by rw[a1H];exact ho) e m1 m2
   rcases m3 with rfl|m3
   ·exact hL'
   ·rw[a8F]at m3
    cases hg:acc'[e.on]? with
    |none=>rw[hg]at m3;simp at m3
    |some x=>
     have hlt:e.on<acc'.length:=(List.getElem?_eq_some_iff.1 hg).1
     refine ih e.on (by omega) i ?_ (fun o' ho' e' he' hb'=>hL e.on o' hL' ho' e' he' hb')
     unfold rch
     rw[a8F,k1,List.getElem?_append_left hlt]
     exact m3
theorem a3S{before:List Nat}: ∀{es:List Edge},a5K before es=true→ ∀e∈es,a1M e=true→e.on∈before
 | [],_,e,he,_=>by cases he
 |x::r,h,e,he,hb=>by
  simp only[a5K]at h
  cases hx:a1M x with
  |true=>
   rw[hx]at h
   simp only at h
   cases hm:a8z x.on before with
   |false=>rw[hm]at h;cases h
   |true=>
    rw[hm]at h
    rcases List.mem_cons.1 he with rfl|he
    ·exact a4Z.1 hm
    ·exact a3S h e he hb
  |false=>
   rw[hx]at h
   rcases List.mem_cons.1 he with rfl|he
   ·rw[hx]at hb;cases hb
   ·exact a3S h e he hb
theorem a6n{ks:List SK}{mk:List Nat}{i:Nat}: ∀{l:List Nat},effs ks mk i l=true→ ∀e∈l,a1N ks e= .e→rch mk e i=true
 | [],_,e,he,_=>by cases he
 |x::l,h,e,he,hk=>by
  simp only[effs]at h
  rcases List.mem_cons.1 he with rfl|he
  ·rw[hk]at h
   simp only at h
   cases hr:rch mk e i with
   |true=>rfl
   |false=>rw[hr]at h;cases h
  ·refine a6n (l:=l) ?_ e he hk
   cases hx:a1N ks x with
   |r=>rw[hx]at h;exact h
   |a=>rw[hx]at h;exact h
   |e=>
    rw[hx]at h
    simp only at h
    cases hr:rch mk x i with
    |true=>rw[hr]at h;exact h
    |false=>rw[hr]at h;cases h
theorem a6Y{ks:List SK}{mk:List Nat}{i:Nat}: ∀{r:List Nat},a7V ks mk i r=true→ ∀j∈r,a1N ks j≠ .a→ ∃pre k post,r=pre++k::post∧a1N ks k= .e∧rch mk i k=true∧(j=k∨j∈post)
 | [],_,j,hj,_=>by cases hj
 |x::r,h,j,hj,hk=>by
  simp only[a7V]at h
  cases hx:a1N ks x with
  |r=>rw[hx]at h;cases h
  |e=>
   rw[hx]at h
   exact⟨[],x,r,rfl,hx,h,by simpa using hj⟩
  |a=>
   rw[hx]at h
   rcases List.mem_cons.1 hj with rfl|hj
   ·exact absurd hx hk
   ·obtain⟨pre,k,post,h1,h2⟩:=a6Y h j hj hk
    exact⟨x::pre,k,post,by simp[h1],h2⟩
theorem a0j{all:List Oper}{ks:List SK}{mk:List Nat}{before:List Nat}{i:Nat}{rest:List Nat}(h:a5Z all ks mk before (i::rest)=true):
  ∃o,a0k all i=some o∧i∉before∧(∀e∈o.after.toList,a1M e=true→e.on∈before)∧(a1N ks i= .a→o.guard=none∧a7V ks mk i rest=true)∧(a1N ks i≠ .a→ ∀e∈before,a1N ks e= .e→rch mk e i=true)∧a5Z all ks mk (i::before) rest=true:=by
 simp only[a5Z]at h
 cases ho:a0k all i with
 |none=>rw[ho]at h;cases h
 |some o=>
  rw[ho]at h
  simp only at h
  cases hm:a8z i before with
  |true=>rw[hm]at h;cases h
  |false=>
   rw[hm]at h
   simp only at h
   cases ha:a5K before o.after.toList with
   |false=>rw[ha]at h;cases h
   |true=>
    rw[ha]at h
    simp only at h
    refine⟨o,rfl,a3e.1 hm,a3S ha, ?_⟩
    cases hk:a1N ks i with
    |a=>
     rw[hk]at h
     simp only at h
     cases hg:o.guard with
     |some _=>rw[hg]at h;cases h
     |none=>
      rw[hg]at h
      simp only at h
      cases hh:a7V ks mk i rest with
      |false=>rw[hh]at h;cases h
      |true=>
       rw[hh]at h
       exact⟨fun _=>⟨rfl,rfl⟩,fun hn=>absurd rfl hn,h⟩
    |r=>
     rw[hk]at h
     simp only at h
     cases he:effs ks mk i before with
     |false=>rw[he]at h;cases h
     |true=>
      rw[he]at h
      exact⟨(fun hn=>by cases hn),fun _=>a6n he,h⟩
    |e=>
     rw[hk]at h
     simp only at h
     cases he:effs ks mk i before with
     |false=>rw[he]at h;cases h
     |true=>
      rw[he]at h
      exact⟨(fun hn=>by cases hn),fun _=>a6n he,h⟩
theorem a3G{all:List Oper}{ks:List SK}{mk:List Nat}: ∀{rest before:List Nat},a5Z all ks mk before rest=true→ ∀j∈rest,j∉before∧ ∃o,a0k all j=some o
 | [],_,_,j,hj=>by cases hj
 |i::rest,before,h,j,hj=>by
  obtain⟨o,h1,h2,_,_,_,h3⟩:=a0j h
  rcases List.mem_cons.1 hj with rfl|hj
  ·exact⟨h2,o,h1⟩
  ·obtain⟨k1,k2⟩:=a3G h3 j hj
   exact⟨fun hb=>k1 (by simp[hb]),k2⟩
theorem a6N{all:List Oper}{ks:List SK}{mk:List Nat}: ∀{rest before:List Nat},a5Z all ks mk before rest=true→ ∀pre j post,rest=pre++j::post→a1N ks j≠ .a→ ∀e,(e∈before∨e∈pre)→a1N ks e= .e→rch mk e j=true
 | [],_,_,pre,j,post,hp,_,_,_,_=>by simp at hp
 |i::rest,before,h,pre,j,post,hp,hk,e,he,hke=>by
  obtain⟨o,h1,h2,_,_,h4,h3⟩:=a0j h
  cases pre with
  |nil=>
   simp only[List.nil_append,List.cons.injEq]at hp
   obtain⟨rfl,rfl⟩:=hp
   exact h4 hk e (by simpa using he) hke
  |cons p pre=>
   simp only[List.cons_append,List.cons.injEq]at hp
   obtain⟨rfl,hp⟩:=hp
   refine a6N h3 pre j post hp hk e ?_ hke
   rcases he with he|he
   ·exact .inl (by simp[he])
   ·rcases List.mem_cons.1 he with rfl|he
    ·exact .inl (by simp)
    ·exact .inr he
theorem a8v{d:Nat}{o:Option Nat}:b1h d o=true↔o=some d:=by
 cases o with
 |none=>simp[b1h]
 |some x=>
  simp only[b1h,Option.some.injEq]
  exact⟨fun h=>(Nat.eq_of_beq_eq_true h).symm,fun h=>by subst h;simp⟩
theorem a5k{all:List Oper}{d i:Nat}:b2y all d i=true↔d∈a0y all i∨a1S all i=some d:=by
 unfold b2y
 cases h:a8z d (a0y all i)with
 |true=>simp[a4Z.1 h]
 |false=>simp[a3e.1 h,a8v]
theorem a3E{all:List Oper}{mk:List Nat}{x d:Nat}: ∀{l:List Nat},tame all mk x d l=true→ ∀i∈l,(i≠x→b2y all d i=true→rch mk x i=true)∧(i=x→d∉a0y all i)
 | [],_,i,hi=>by cases hi
 |y::l,h,i,hi=>by
  simp only[tame]at h
  cases hb:Nat.beq x y with
  |true=>
   rw[hb]at h
   simp only at h
   have hxy:=Nat.eq_of_beq_eq_true hb
   cases hm:a8z d (a0y all y)with
   |true=>rw[hm]at h;cases h
   |false=>
    rw[hm]at h
    rcases List.mem_cons.1 hi with rfl|hi
    ·exact⟨fun hn=>absurd hxy.symm hn,fun _=>a3e.1 hm⟩
    ·exact a3E h i hi
  |false=>
   rw[hb]at h
   simp only at h
   have hxy:y≠x:=fun e=>by rw[e]at hb;simp at hb
   cases hh:b2y all d y with
   |false=>
    rw[hh]at h
    rcases List.mem_cons.1 hi with rfl|hi
    ·exact⟨(fun _ hc=>by rw[hh]at hc;cases hc),fun e=>absurd e hxy⟩
    ·exact a3E h i hi
   |true=>
    rw[hh]at h
    simp only at h
    cases hr:rch mk x y with
    |false=>rw[hr]at h;cases h
    |true=>
     rw[hr]at h
     rcases List.mem_cons.1 hi with rfl|hi
     ·exact⟨fun _ _=>hr,fun e=>absurd e hxy⟩
     ·exact a3E h i hi
theorem a1t{all:List Oper}{mk:List Nat}{x d:Nat}: ∀{l:List Nat},a4G all mk x d l=true→ ∀i∈l,i≠x→b2y all d i=true→rch mk x i=true∨rch mk i x=true
 | [],_,i,hi=>by cases hi
 |y::l,h,i,hi=>by
  simp only[a4G]at h
  intro hix hh
  cases hb:Nat.beq x y with
  |true=>
   rw[hb]at h
   have hxy:=Nat.eq_of_beq_eq_true hb
   rcases List.mem_cons.1 hi with rfl|hi
   ·exact absurd hxy.symm hix
   ·exact a1t h i hi hix hh
  |false=>
   rw[hb]at h
   simp only at h
   cases hy:b2y all d y with
   |false=>
    rw[hy]at h
    rcases List.mem_cons.1 hi with rfl|hi
    ·rw[hy]at hh;cases hh
    ·exact a1t h i hi hix hh
   |true=>
    rw[hy]at h
    simp only at h
    cases hr:rch mk x y with
    |true=>
     rw[hr]at h
     rcases List.mem_cons.1 hi with rfl|hi
     ·exact .inl hr
     ·exact a1t h i hi hix hh
    |false=>
     rw[hr]at h
     simp only at h
     cases hq:rch mk y x with
     |false=>rw[hq]at h;cases h
     |true=>
      rw[hq]at h
      rcases List.mem_cons.1 hi with rfl|hi
      ·exact .inr hq
      ·exact a1t h i hi hix hh
structure Pairs(all:List Oper)(ks:List SK)(mk:List Nat):Prop where
 tame: ∀x d,a1S all x=some d→a1N ks x≠ .e→ ∀i,i<all.length→i≠x→b2y all d i=true→rch mk x i=true
 self: ∀x d,x<all.length→a1S all x=some d→a1N ks x≠ .e→d∉a0y all x
 sole: ∀x d,a1S all x=some d→a1N ks x= .a→ ∀i,i<all.length→i≠x→a1S all i≠some d
 wr: ∀i,i<all.length→a1N ks i= .a→ ∀x d,a1S all x=some d→d∈a0y all i→rch mk x i=true
 eff: ∀x d,a1S all x=some d→a1N ks x= .e→ ∀i,i<all.length→i≠x→b2y all d i=true→rch mk x i=true∨rch mk i x=true
theorem a2Y{all:List Oper}{x d:Nat}(h:a1S all x=some d):x<all.length:=by
 unfold a1S at h
 rw[a1H]at h
 cases hx:all[x]? with
 |none=>rw[hx]at h;cases h
 |some o=>exact(List.getElem?_eq_some_iff.1 hx).1
theorem a4q{all:List Oper}{x d:Nat}: ∀{l:List Nat},b2S all x d l=true→ ∀i∈l,i≠x→a1S all i≠some d
 | [],_,i,hi,_=>by cases hi
 |y::l,h,i,hi,hne=>by
  simp only[b2S]at h
  cases hxy:Nat.beq x y with
  |true=>
   rw[hxy]at h
   have e:=Nat.eq_of_beq_eq_true hxy
   rcases List.mem_cons.1 hi with rfl|hi
   ·exact absurd e.symm hne
   ·exact a4q h i hi hne
  |false=>
   rw[hxy]at h
   simp only at h
   cases ho:b1h d (a1S all y)with
   |true=>rw[ho]at h;cases h
   |false=>
    rw[ho]at h
    rcases List.mem_cons.1 hi with rfl|hi
    ·intro e;rw[a8v.2 e]at ho;cases ho
    ·exact a4q h i hi hne
theorem a4Q{all:List Oper}{mk:List Nat}{i:Nat}: ∀{l:List Nat},b4v all mk i l=true→ ∀x∈l,∀d,a1S all x=some d→d∈a0y all i→rch mk x i=true
 | [],_,x,hx,_,_,_=>by cases hx
 |y::l,h,x,hx,d,hd,hl=>by
  simp only[b4v]at h
  cases hy:a1S all y with
  |none=>
   rw[hy]at h
   rcases List.mem_cons.1 hx with rfl|hx
   ·rw[hy]at hd;cases hd
   ·exact a4Q h x hx d hd hl
  |some d'=>
   rw[hy]at h
   simp only at h
   cases hm:a8z d' (a0y all i)with
   |false=>
    rw[hm]at h
    rcases List.mem_cons.1 hx with rfl|hx
    ·rw[hy]at hd;cases hd;exact absurd hl (a3e.1 hm)
    ·exact a4Q h x hx d hd hl
   |true=>
    rw[hm]at h
    simp only at h
    cases hr:rch mk y i with
    |false=>rw[hr]at h;cases h
    |true=>
     rw[hr]at h
     rcases List.mem_cons.1 hx with rfl|hx
     ·exact hr
     ·exact a4Q h x hx d hd hl
theorem a3V{all:List Oper}{ks:List SK}{mk:List Nat}{n:Nat}: ∀{l:List Nat},a9o all ks mk n l=true→ ∀i∈l,a1N ks i= .a→b4v all mk i (upto n 0)=true
 | [],_,i,hi,_=>by cases hi
 |y::l,h,i,hi,hk=>by
  simp only[a9o]at h
  cases hy:a1N ks y with
  |a=>
   rw[hy]at h
   simp only at h
   cases hw:b4v all mk y (upto n 0)with
   |false=>rw[hw]at h;cases h
   |true=>
    rw[hw]at h
    rcases List.mem_cons.1 hi with rfl|hi
    ·exact hw
    ·exact a3V h i hi hk
  |r=>
   rw[hy]at h
   rcases List.mem_cons.1 hi with rfl|hi
   ·rw[hy]at hk;cases hk
   ·exact a3V h i hi hk
  |e=>
   rw[hy]at h
   rcases List.mem_cons.1 hi with rfl|hi
   ·rw[hy]at hk;cases hk
   ·exact a3V h i hi hk
theorem b4I{all:List Oper}{ks:List SK}{mk:List Nat}{n:Nat}(hn:n=all.length)(hw:a9o all ks mk n (upto n 0)=true)(h: ∀x,x<n→a7O all ks mk n x=true):Pairs all ks mk:=by
 subst hn
 refine⟨?_, ?_, ?_, ?_, ?_⟩
 ·intro x d hd hk i hi hne hh
  have:=h x (a2Y hd)
  unfold a7O at this
  rw[hd]at this
  simp only at this
  have ht:Go.Ev.tame all mk x d (upto all.length 0)=true:=by
   cases hx:a1N ks x with
   |e=>exact absurd hx hk
   |r=>rw[hx]at this;exact this
   |a=>
    rw[hx]at this
    simp only at this
    cases hq:Go.Ev.tame all mk x d (upto all.length 0)with
    |true=>rfl
    |false=>rw[hq]at this;cases this
  exact(a3E ht i (a1n.2 ⟨by omega,by omega⟩)).1 hne hh
 ·intro x d hx hd hk
  have:=h x hx
  unfold a7O at this
  rw[hd]at this
  simp only at this
  have ht:Go.Ev.tame all mk x d (upto all.length 0)=true:=by
   cases hx:a1N ks x with
   |e=>exact absurd hx hk
   |r=>rw[hx]at this;exact this
   |a=>
    rw[hx]at this
    simp only at this
    cases hq:Go.Ev.tame all mk x d (upto all.length 0)with
    |true=>rfl
    |false=>rw[hq]at this;cases this
  exact(a3E ht x (a1n.2 ⟨by omega,by omega⟩)).2 rfl
 ·intro x d hd hk i hi hne
  have:=h x (a2Y hd)
  unfold a7O at this
  rw[hd,hk]at this
  simp only at this
  cases hq:Go.Ev.tame all mk x d (upto all.length 0)with
  |false=>rw[hq]at this;cases this
  |true=>rw[hq]at this;exact a4q this i (a1n.2 ⟨by omega,by omega⟩) hne
 ·intro i hi hk x d hd hl
  exact a4Q (a3V hw i (a1n.2 ⟨by omega,by omega⟩) hk) x (a1n.2 ⟨by omega,by have:=a2Y hd;omega⟩) d hd hl
 ·intro x d hd hk i hi hne hh
  have:=h x (a2Y hd)
  unfold a7O at this
  rw[hd]at this
  simp only[hk]at this
  exact a1t this i (a1n.2 ⟨by omega,by omega⟩) hne hh
theorem a4d{P:Program}{all:List Oper}{mk:List Nat}{n:Nat}: ∀(l:List Oper) (late:Nat) (es:List Nat) (s i:Nat) (o:Oper),a0k l i=some o→ ∃late' es',a0k (kinds P all mk n late es s l) i=some (kindOf P all mk n late' es' (s+i) o)
 | [],late,es,s,i,o,h=>by cases i<;>cases h
 |x::l,late,es,s,0,o,h=>by
  simp only[a0k,Option.some.injEq]at h
  subst h
  refine⟨late,es, ?_⟩
  simp only[kinds]
  split<;>(rename_i hk;simp[a0k,hk])
 |x::l,late,es,s,i+1,o,h=>by
  simp only[a0k]at h
  have e:s+1+i=s+(i+1):=by omega
  simp only[kinds]
  split
  ·obtain⟨late',es',h'⟩:=a4d l (Nat.lor late (2^s)) es (s+1) i o h
   exact⟨late',es',by simp only[a0k];rw[h',e]⟩
  ·obtain⟨late',es',h'⟩:=a4d l late (s::es) (s+1) i o h
   exact⟨late',es',by simp only[a0k];rw[h',e]⟩
  ·obtain⟨late',es',h'⟩:=a4d l late es (s+1) i o h
   exact⟨late',es',by simp only[a0k];rw[h',e]⟩
theorem b7L{P:Program}{all:List Oper}{mk:List Nat}{n i:Nat}{o:Oper}(ho:a0k all i=some o)(h:a1N (kinds P all mk n 0 [] 0 all) i= .a):cls P o.op=2∨isU o.op=true:=by
 unfold a1N at h
 obtain⟨late',es',hl⟩:=a4d (P:=P) (all:=all) (mk:=mk) (n:=n) all 0 [] 0 i o ho
 rw[hl]at h
 simp only at h
 unfold kindOf at h
 split at h
 ·split at h
  ·split at h
   ·split at h
    ·cases h
    ·split at h
     ·rename_i hu;exact .inr hu
     ·cases h
   ·cases h
  ·cases h
 ·split at h
  ·split at h
   ·split at h<;>cases h
   ·cases h
  ·cases h
 ·exact .inl (by assumption)
 ·cases h
theorem b2q{P:Program}{op:Op}(h:isU op=true):cls P op=0:=by cases op<;>simp[isU]at h<;>rfl
theorem b1H{P:Program}{op:Op}(h:cls P op=2):isU op=false:=by
 cases hu:isU op with
 |false=>rfl
 |true=>rw[b2q hu]at h;cases h
theorem a6e{φ:Phi}: ∀(xs ms:List VV) (vs:List Value),b0V xs ms=true→VRs φ xs vs→VRs φ ms vs
 | [],[],vs,_,h=>h
 | [],_::_,vs,h,_=>by simp[b0V]at h
 |x::xs,[],vs,h,_=>by simp[b0V]at h
 |x::xs,m::ms,vs,h,k=>by
  cases m with
  |one=>
   simp only[b0V]at h
   cases hx:a7C x with
   |false=>rw[hx]at h;cases h
   |true=>
    rw[hx]at h
    simp only[VRs]at k ⊢
    obtain⟨y,ys,rfl,k1,k2⟩:=k
    exact⟨y,ys,rfl,by simpa only[VR]using a8i k1 hx,a6e xs ms ys h k2⟩
  |_=>simp[b0V]at h
theorem b0U{φ:Phi}{x m:VV}{v:Value}(h:b1t x m=true)(k:VR φ x v):VR φ m v:=by
 cases m with
 |one=>simp only[VR];exact a8i k (by cases x<;>simpa only[b1t]using h)
 |agg ms=>cases x with
  |agg cs=>
   simp only[b1t]at h
   simp only[VR]at k ⊢
   obtain⟨cs',k1,rfl⟩:=k
   exact⟨cs',a6e cs ms cs' h k1,rfl⟩
  |_=>simp[b1t]at h
 |_=>cases x<;>simp[b1t]at h
theorem b4Z{x:VV}(h:b5w x=true):x= .one:=by cases x<;>simp[b5w]at h<;>rfl
theorem b2l(P:Program)(φ:Phi)(t:TypeId): ∃v,VR φ (a4a P t) v:=by
 have one: ∃v,VR φ .one v:=⟨.nilIface,by simp only[VR];rfl⟩
 have cells: ∀n,VRs φ (b7B n) (List.replicate n .nilIface):=by
  intro n
  induction n with
  |zero=>simp[b7B,VRs]
  |succ n ih=>simp only[b7B,List.replicate_succ,VRs];exact⟨_,_,rfl,by simp only[VR];rfl,ih⟩
 unfold a4a
 split
 ·split
  ·exact⟨.agg ⟨List.replicate _ .nilIface⟩,by simp only[VR];exact⟨_,cells _,rfl⟩⟩
  ·exact one
 ·exact one
theorem a4y{P:Program}{t:Nat}{v:VV}: ∀(l:List Oper) (ks:List SK),(t,v)∈a1c P l ks→ ∃x o,a0k l x=some o∧a0k ks x=some .a∧o.dst=some t∧v=a4a P o.type
 | [],ks,h=>by cases ks<;>simp[a1c]at h
 |o::l,[],h=>by simp[a1c]at h
 |o::l,k::ks,h=>by
  have tail:(t,v)∈a1c P l ks→ ∃x o',a0k (o::l) x=some o'∧a0k (k::ks) x=some .a∧o'.dst=some t∧v=a4a P o'.type:=fun h=>
   let ⟨x,o',h1,h2,h3,h4⟩:=a4y l ks h
   ⟨x+1,o',h1,h2,h3,h4⟩
  cases k with
  |a=>
   simp only[a1c]at h
   cases hd:o.dst with
   |none=>rw[hd]at h;exact tail h
   |some d=>
    rw[hd]at h
    rcases List.mem_cons.1 h with e|h
    ·cases e;exact⟨0,o,rfl,rfl,hd,rfl⟩
    ·exact tail h
  |r=>exact tail (by simpa only[a1c]using h)
  |e=>exact tail (by simpa only[a1c]using h)
theorem a2h{P:Program}{t:Nat}: ∀(l:List Oper) (ks:List SK) (x:Nat) (o:Oper),a0k l x=some o→a0k ks x=some .a→o.dst=some t→(t,a4a P o.type)∈a1c P l ks
 | [],ks,x,o,h,_,_=>by cases x<;>cases h
 |o'::l,[],x,o,_,h,_=>by cases x<;>cases h
 |o'::l,k::ks,0,o,h,h2,h3=>by
  simp only[a0k,Option.some.injEq]at h h2
  subst h h2
  simp only[a1c,h3]
  exact List.mem_cons_self ..
 |o'::l,k::ks,x+1,o,h,h2,h3=>by
  simp only[a0k]at h h2
  have:=a2h (P:=P) l ks x o h h2 h3
  cases k with
  |a=>
   simp only[a1c]
   cases o'.dst with
   |none=>exact this
   |some d=>exact List.mem_cons_of_mem _ this
  |r=>simpa only[a1c]using this
  |e=>simpa only[a1c]using this
theorem b1B{ks:List SK}{i:Nat}(h:a1N ks i= .a):a0k ks i=some .a:=by
 unfold a1N at h
 cases hg:a0k ks i with
 |none=>rw[hg]at h;cases h
 |some k=>rw[hg]at h;simp only at h;rw[h]
theorem a3b{t:Nat}: ∀(l:List (Nat×VV)),(∀p∈l,p.1<top)→(∃v,(t,v)∈l∧ ∀a,a1d (a2V l a) t=v)∨((∀v,(t,v)∉l)∧ ∀a,a1d (a2V l a) t=a1d a t)
 | [],_=>.inr ⟨(fun v h=>by cases h),fun a=>rfl⟩
 |(d,u)::l,h=>by
  rcases a3b l (fun p hp=>h p (List.mem_cons_of_mem _ hp))with⟨v,h1,h2⟩|⟨h1,h2⟩
  ·exact .inl ⟨v,List.mem_cons_of_mem _ h1,fun a=>h2 _⟩
  ·by_cases e:t=d
   ·subst e
    refine .inl ⟨u,List.mem_cons_self ..,fun a=> ?_⟩
    show a1d (a2V l (a.put t u)) t=u
    rw[h2]
    unfold a1d
    rw[TT.get_put_same _ _ _ (h _ (List.mem_cons_self ..))]
   ·refine .inr ⟨fun v hv=> ?_,fun a=> ?_⟩
    ·rcases List.mem_cons.1 hv with e'|hv
     ·cases e';exact e rfl
     ·exact h1 v hv
    ·show a1d (a2V l (a.put d u)) t=a1d a t
     rw[h2]
     unfold a1d
     rw[TT.get_put_other _ _ _ _ e]
theorem a9D{nt:Nat}: ∀{l:List (Nat×VV)},b7J nt l=true→ ∀p∈l,p.1<nt
 | [],_,p,hp=>by cases hp
 |(d,v)::l,h,p,hp=>by
  simp only[b7J]at h
  cases hb:Nat.blt d nt with
  |false=>rw[hb]at h;cases h
  |true=>
   rw[hb]at h
   rcases List.mem_cons.1 hp with rfl|hp
   ·exact a1B hb
   ·exact a9D h p hp
theorem a9S{P:Program}{φ:Phi}{a:VT}{act:Act}(ht:TR φ a act.tmps)(o:Oper){v:VV}(h:evU P o.op a=some v): ∃v',(∀w,(execOp act.eval o).run P w= .ok (.value v') w)∧VR φ v v':=by
 obtain⟨dst,op,type,pos,after,guard⟩:=o
 simp only at h
 cases op with
 |move x=>exact⟨act.eval x,fun w=>rfl,a0D ht h⟩
 |build t parts=>
  obtain⟨parts⟩:=parts
  simp only[evU]at h
  cases hp:a0z a parts with
  |none=>rw[hp]at h;cases h
  |some ps=>
   rw[hp]at h
   obtain⟨h1,h2⟩:=a2F ht parts ps hp
   obtain⟨v',r1,r2⟩:=a4k (a1o parts ps hp) h1 h2 h
   exact⟨v',fun w=>a0S (by simpa using r1 w),r2⟩
 |makeInterface t x=>
  simp only[evU]at h
  cases hu:P.underlying t with
  |none=>rw[hu]at h;cases h
  |some d=>cases hx:a0C a x with
   |none=>rw[hu,hx]at h;cases h
   |some u=>
    rw[hu,hx]at h
    simp only at h
    cases hd:a1I d with
    |false=>rw[hd]at h;cases h
    |true=>
     rw[hd]at h
     simp only[Option.some.injEq]at h
     subst h
     refine⟨.iface t (act.eval x),fun w=>a0S ?_,by simp only[VR];exact⟨_,a0D ht hx,rfl⟩⟩
     cases d<;>simp[a1I]at hd<;>simp[Instr.makeInterface,run_underlying hu]
 |_=>cases h
theorem b6B{P:Program}{op:Op}{a:VT}{H:VH}(h:isU op=true):(evR P op a H).get=evU P op a:=by
 cases op with
 |move x=>simp only[evR,evU];cases a0C a x<;>rfl
 |build t parts=>
  obtain⟨parts⟩:=parts
  simp only[evR,evU]
  cases a0z a parts with
  |none=>rfl
  |some ps=>simp only;cases a6k P t ps<;>rfl
 |makeInterface t x=>
  simp only[evR,evU]
  cases P.underlying t with
  |none=>rfl
  |some d=>cases a0C a x with
   |none=>rfl
   |some v=>simp only;cases a1I d<;>rfl
 |_=>simp[isU]at h
end Go.Ev
namespace Go.Ev
theorem a3M{a b:VT}{x:Operand}(h: ∀t,x= .tmp t→a1d a t=a1d b t):a0C a x=a0C b x:=by
 cases x with
 |tmp t=>simp only[a0C,h t rfl]
 |_=>rfl
theorem a1y{a b:VT}: ∀{l:List Operand},(∀x∈l,a0C a x=a0C b x)→a0d a l=a0d b l
 | [],_=>rfl
 |x::l,h=>by simp only[a0d,h x (by simp),a1y (l:=l) fun y hy=>h y (by simp[hy])]
theorem a2G{a b:VT}: ∀{l:List (Nat×Operand)},(∀x∈l.map (·.2),a0C a x=a0C b x)→a0z a l=a0z b l
 | [],_=>rfl
 |(i,x)::l,h=>by simp only[a0z,h x (by simp),a2G (l:=l) fun y hy=>h y (by simp at hy ⊢;exact .inr hy)]
theorem a2x{a b:VT}{o:Option Operand}(h: ∀x∈o.toArray,a0C a x=a0C b x):a4h a o=a4h b o:=by
 cases o with
 |none=>rfl
 |some x=>simp only[a4h,h x (by simp)]
theorem a8R{P:Program}{a b:VT}{H:VH}{c:Call}(h: ∀x∈c.operands,a0C a x=a0C b x):a2R P c a H=a2R P c b H:=by
 obtain⟨callee,⟨args⟩,⟨ts⟩⟩:=c
 cases callee with
 |builtin bi=>
  have h': ∀x∈args,a0C a x=a0C b x:=fun x hx=>h x (by simp[Call.operands,hx])
  cases bi with
  |len=>cases args with
   |nil=>rfl
   |cons x l=>cases l with
    |nil=>cases ts with
     |nil=>rfl
     |cons t ts=>simp only[a2R,h' x (by simp)]
    |cons y l=>rfl
  |cap=>cases args with
   |nil=>rfl
   |cons x l=>cases l with
    |nil=>cases ts with
     |nil=>rfl
     |cons t ts=>simp only[a2R,h' x (by simp)]
    |cons y l=>rfl
  |min=>cases args with
   |nil=>rfl
   |cons x l=>cases l with
    |nil=>rfl
    |cons y l=>cases l with
     |nil=>simp only[a2R,h' x (by simp),h' y (by simp)]
     |cons z l=>rfl
  |max=>cases args with
   |nil=>rfl
   |cons x l=>cases l with
    |nil=>rfl
    |cons y l=>cases l with
     |nil=>simp only[a2R,h' x (by simp),h' y (by simp)]
     |cons z l=>rfl
  |_=>rfl
 |_=>rfl
theorem b3F{P:Program}{a b:VT}{H:VH}{op:Op}(h: ∀x∈op.operands,a0C a x=a0C b x):evR P op a H=evR P op b H:=by
 cases op with
 |move x=>simp only[evR,h x (by simp[Op.operands])]
 |assign x=>simp only[evR,h x (by simp[Op.operands])]
 |pick c x y=>simp only[evR,h x (by simp[Op.operands]),h y (by simp[Op.operands]),h c (by simp[Op.operands])]
 |build t parts=>
  obtain⟨parts⟩:=parts
  simp only[evR,a2G (l:=parts) fun x hx=>h x (by simpa[Op.operands]using hx)]
 |load t x=>simp only[evR,h x (by simp[Op.operands])]
 |nilCheck x=>simp only[evR,h x (by simp[Op.operands])]
 |binOp op t x y z=>simp only[evR,h x (by simp[Op.operands]),h y (by simp[Op.operands])]
 |unOp op t x=>simp only[evR,h x (by simp[Op.operands])]
 |convert s d x=>simp only[evR,h x (by simp[Op.operands])]
 |makeInterface t x=>simp only[evR,h x (by simp[Op.operands])]
 |makeFunc fn f c=>
  obtain⟨f⟩:=f
  obtain⟨c⟩:=c
  simp only[evR,a1y (l:=f) fun x hx=>h x (by simp[Op.operands,hx]),a1y (l:=c) fun x hx=>h x (by simp[Op.operands,hx])]
 |slice t x lo hi mx=>
  cases mx with
  |some m=>
   simp only[evR,h x (by simp[Op.operands]),h m (by simp[Op.operands]),a2x (o:=lo) fun x hx=>h x (by simp only[Op.operands,Array.mem_append];exact .inl (.inl (.inr hx))),a2x (o:=hi) fun x hx=>h x (by simp only[Op.operands,Array.mem_append];exact .inl (.inr hx))]
  |none=>
   simp only[evR,h x (by simp[Op.operands]),a2x (o:=lo) fun x hx=>h x (by simp only[Op.operands,Array.mem_append];exact .inl (.inl (.inr hx))),a2x (o:=hi) fun x hx=>h x (by simp only[Op.operands,Array.mem_append];exact .inl (.inr hx))]
 |fieldAddr t x f=>simp only[evR,h x (by simp[Op.operands])]
 |field t x f=>simp only[evR,h x (by simp[Op.operands])]
 |indexAddr t x i=>simp only[evR,h x (by simp[Op.operands]),h i (by simp[Op.operands])]
 |index t x i=>simp only[evR,h x (by simp[Op.operands]),h i (by simp[Op.operands])]
 |lookup t x k ok=>simp only[evR,h x (by simp[Op.operands]),h k (by simp[Op.operands])]
 |typeAssert x xt t ok=>simp only[evR,h x (by simp[Op.operands])]
 |extract x i=>simp only[evR,h x (by simp[Op.operands])]
 |call c=>simp only[evR];exact a8R fun x hx=>h x (by simpa[Op.operands]using hx)
 |_=>rfl
theorem b3D{P:Program}{a b:VT}{op:Op}(h: ∀x∈op.operands,a0C a x=a0C b x):evU P op a=evU P op b:=by
 cases op with
 |move x=>simp only[evU,h x (by simp[Op.operands])]
 |build t parts=>
  obtain⟨parts⟩:=parts
  simp only[evU,a2G (l:=parts) fun x hx=>h x (by simpa[Op.operands]using hx)]
 |makeInterface t x=>simp only[evU,h x (by simp[Op.operands])]
 |_=>rfl
theorem b0X{P:Program}{a b:VT}{op:Op}(h: ∀x∈op.operands,a0C a x=a0C b x):a2y P op a=a2y P op b:=by
 cases op with
 |box t x=>simp only[a2y,h x (by simp[Op.operands])]
 |buildSlice t n parts=>
  obtain⟨parts⟩:=parts
  simp only[a2y,a2G (l:=parts) fun x hx=>h x (by simpa[Op.operands]using hx)]
 |makeMap t r=>
  cases r with
  |none=>rfl
  |some r=>simp only[a2y,h r (by simp[Op.operands])]
 |makeSlice t l c=>simp only[a2y,h l (by simp[Op.operands]),h c (by simp[Op.operands])]
 |_=>rfl
theorem b1z{P:Program}{H K:VH}(hb:H.base=K.base)(op:BinOp)(t:TypeId)(cx cy:Bool)(x y:VV):b2A P H op t cx cy x y=b2A P K op t cx cy x y:=by
 unfold b2A b6Z
 rw[hb]
theorem a5c{P:Program}{H K:VH}(hb:H.base=K.base)(t:TypeId)(x y:VV):a1i P H t x y=a1i P K t x y:=by
 unfold a1i b3t
 rw[hb]
theorem b1v{H K:VH}(hb:H.base=K.base)(x y:VV):b1w H x y=b1w K x y:=by
 unfold b1w
 rw[hb]
theorem b1x{H K:VH}(hb:H.base=K.base)(x y:VV):b1y H x y=b1y K x y:=by
 unfold b1y
 rw[hb]
theorem b4k{P:Program}{a:VT}{H K:VH}(hb:H.base=K.base){op:Op}(h:cls P op=0):evR P op a H=evR P op a K:=by
 cases op with
 |slice t x lo hi mx=>simp[cls]at h
 |load t x=>simp[cls]at h
 |lookup t x k ok=>simp[cls]at h
 |convert s d x=>
  simp only[cls]at h
  split at h<;>cases h
 |binOp op t x y z=>simp only[evR,b1z hb]
 |indexAddr t x i=>simp only[evR,a5c hb]
 |call c=>
  obtain⟨callee,args,ts⟩:=c
  cases callee with
  |builtin bi=>
   obtain⟨args⟩:=args
   cases bi with
   |min=>rcases args with _|⟨x,_|⟨y,_|⟨z,l⟩⟩⟩<;>simp only[evR,a2R,b1v hb]
   |max=>rcases args with _|⟨x,_|⟨y,_|⟨z,l⟩⟩⟩<;>simp only[evR,a2R,b1x hb]
   |_=>first|rfl|(simp[cls]at h;done)
  |_=>rfl
 |_=>rfl
theorem a3d{t:Nat}: ∀{l:List Operand},Operand.tmp t∈l→t∈a3o l
 | [],h=>by cases h
 |x::l,h=>by
  rcases List.mem_cons.1 h with rfl|h
  ·simp[a3o]
  ·have:=a3d h
   cases x<;>simp[a3o,this]
theorem a7u{all:List Oper}{o:Oper}{t:Nat}(h:t∈a3o o.op.operands.toList):t∈looks all o:=by
 unfold looks
 split
 ·split
  ·split
   ·simp[h]
   ·exact h
  ·exact h
 ·exact h
theorem a4J{all:List Oper}{o og:Oper}{g:Nat}{w:Bool}{d:Nat}(hg:o.guard=some (g,w))(ho:a0k all g=some og)(hd:og.dst=some d):d∈looks all o:=by
 unfold looks
 rw[hg]
 simp only[ho,hd]
 simp
def SameV(all:List Oper)(o:Oper)(a b:VT):Prop:= ∀t∈looks all o,a1d a t=a1d b t
def Same(all:List Oper)(o:Oper)(act act':Act):Prop:= ∀t∈looks all o,act.tmps.getD t undef=act'.tmps.getD t undef
theorem SameV.evR{P:Program}{all:List Oper}{o:Oper}{a b:VT}{H:VH}(h:SameV all o a b):Go.Ev.evR P o.op a H=Go.Ev.evR P o.op b H:=
 b3F fun x hx=>a3M fun t ht=>h t (a7u (a3d (by subst ht;simpa using hx)))
theorem SameV.wanted{all:List Oper}{o:Oper}{a b:VT}(h:SameV all o a b):a1T all a o.guard=a1T all b o.guard:=by
 cases hg:o.guard with
 |none=>rfl
 |some gw=>
  obtain⟨g,w⟩:=gw
  simp only[a1T]
  cases ho:a0k all g with
  |none=>rfl
  |some og=>
   simp only
   cases hd:og.dst with
   |none=>rfl
   |some d=>simp only[h d (a4J hg ho hd)]
theorem SameV.gOk{all:List Oper}{o:Oper}{a b:VT}(h:SameV all o a b):Go.Ev.gOk all a o.guard=Go.Ev.gOk all b o.guard:=by
 cases hg:o.guard with
 |none=>rfl
 |some gw=>
  obtain⟨g,w⟩:=gw
  simp only[Go.Ev.gOk]
  cases ho:a0k all g with
  |none=>rfl
  |some og=>
   simp only
   cases hd:og.dst with
   |none=>rfl
   |some d=>simp only[h d (a4J hg ho hd)]
theorem SameV.operands{all:List Oper}{o:Oper}{a b:VT}(h:SameV all o a b): ∀x∈o.op.operands,a0C a x=a0C b x:=
 fun x hx=>a3M fun t ht=>h t (a7u (a3d (by subst ht;simpa using hx)))
theorem Same.eval{all:List Oper}{o:Oper}{act act':Act}(h:Same all o act act'): ∀x∈o.op.operands,act.eval x=act'.eval x:=by
 intro x hx
 cases x with
 |tmp t=>exact h t (a7u (a3d (by simpa using hx)))
 |_=>rfl
theorem Same.exec{all:List Oper}{o:Oper}{act act':Act}(h:Same all o act act')(hs: ∀cs b,o.op≠ .select cs b):execOp act.eval o=execOp act'.eval o:=
 execOp_congr o hs h.eval
theorem a4A(ops:List Oper)(tmps:Array Value)(o:Oper):Region.wanted o (yielded ⟨ops⟩ tmps)=match o.guard with
  |none=>true
  |some (j,want)=>match a0k ops j with
   |some oj=>match oj.dst with
    |some d=>match tmps.getD d undef with
     |.bool b=>match b with|true=>want|false=> !want
     |_=>false
    |none=>false
   |none=>false:=by
 unfold Region.wanted
 cases hg:o.guard with
 |none=>rfl
 |some jw=>
  obtain⟨j,want⟩:=jw
  simp only[yielded]
  rw[a1H]
  have e0:(⟨ops⟩:Array Oper)[j]? =ops[j]? :=by simp
  rw[e0]
  cases hj:ops[j]? with
  |none=>rfl
  |some oj=>
   simp only[Option.bind_some]
   cases hd:oj.dst with
   |none=>rfl
   |some d=>
    simp only[Option.bind_some]
    have hget:tmps.getD d undef=(tmps[d]?).getD undef:=by simp[Array.getD_eq_getD_getElem?]
    rw[hget]
    cases hv:tmps[d]? with
    |none=>rfl
    |some v=>
     simp only[Option.getD_some]
     cases v with
     |bool b=>cases b<;>cases want<;>rfl
     |_=>rfl
theorem Same.wanted{all:List Oper}{o:Oper}{act act':Act}(h:Same all o act act'):Region.wanted o (yielded ⟨all⟩ act.tmps)=Region.wanted o (yielded ⟨all⟩ act'.tmps):=by
 rw[a4A,a4A]
 cases hg:o.guard with
 |none=>rfl
 |some gw=>
  obtain⟨g,w⟩:=gw
  simp only
  cases ho:a0k all g with
  |none=>rfl
  |some og=>
   simp only
   cases hd:og.dst with
   |none=>rfl
   |some d=>simp only[h d (a4J hg ho hd)]
theorem a9T{P:Program}{op:Op}{a:VT}{H:VH}{v:VV}(h:(evR P op a H).get=some v):(∀cs b,op≠ .select cs b)∧ ∀c,op≠ .defer c:=by
 constructor
 ·rintro cs b rfl;simp[evR,RO.get]at h
 ·rintro c rfl;simp[evR,RO.get]at h
theorem a3u{P:Program}{fe:FE}{op:Op}{a:VT}{H:VH}{v:VV}{H₁:VH}(h:a2g P fe op a H=some (v,H₁)): ∀cs b,op≠ .select cs b:=by
 rintro c b rfl
 simp[a2g,cls,evE,Out.get]at h
theorem b1i{P:Program}(hng:b0q P){fe:FE}(hfe:FEok P fe){w0:World}{φ:Phi}{w:World}{a:VT}{act actg:Act}{H:VH}(ht:TR φ a actg.tmps)(hs:HSim w0 φ H w){all:List Oper}{o:Oper}(hsm:Same all o act actg){v:VV}{H₁:VH}(h:a2g P fe o.op a H=some (v,H₁))
  (r:Option Nat) (K:Act→World→Prop) (Q:Exit→Act→World→Prop)
  (hK: ∀v' w₁ φ₁,St φ w φ₁ w₁→VR φ₁ v v'→HSim w0 φ₁ H₁ w₁→H₁.base=H.base→K (act.put o.dst v') w₁):o.wpIn (Fr r) 0 P act w K Q:=by
 have hd:=a4X h
 refine⟨fun _ _=>trivial, ?_⟩
 rw[show(Fr r).round=r from rfl,Oper.semAt_eq _ _ _ hd,hsm.exec (a3u h)]
 have read: ∀{u:VV},(evR P o.op a H).get=some u→some (u,H)=some (v,H₁)→o.uponIn (Fr r) 0 P act K Q ((execOp actg.eval o).run P w):=by
  intro u hu he
  simp only[Option.some.injEq,Prod.mk.injEq]at he
  obtain⟨rfl,rfl⟩:=he
  obtain⟨v',h1,h2⟩:=a4P hu (a4g ht hs o)
  rw[h1]
  exact hK v' w φ (.refl φ w) h2 hs rfl
 have write:(match(evE P o.op a H).get with
   |.val v H₁=>some (v,H₁)
   |.enter f args=>fe.call f args H
   |.round i args=>fe.round i args H
   |.bad=>none)=some (v,H₁)→o.uponIn (Fr r) 0 P act K Q ((execOp actg.eval o).run P w):=by
  intro he
  have hg:=a6r (a9X hng ht hs o)
  cases hq:(evE P o.op a H).get with
  |val u K'=>
   rw[hq]at he hg
   simp only[Option.some.injEq,Prod.mk.injEq]at he
   obtain⟨rfl,rfl⟩:=he
   simp only at hg
   rcases hg with⟨v',w₁,φ₁,h1,h2,h3,h4,h5⟩|⟨rfl,w₁,φ₁,h1,h2,h3,h4⟩
   ·rw[h1];exact hK v' w₁ φ₁ h2 h3 h4 h5
   ·rw[h1];exact hK undef w₁ φ₁ h2 (a2z φ₁) h3 h4
  |enter f args=>
   rw[hq]at he hg
   simp only at he hg
   obtain⟨args',h1,h2⟩:=hg
   rw[h1]
   refine⟨(fun hx=>by cases hx), ?_⟩
   refine a5G.2 ((hfe.call w0 f args H v H₁ he φ w args' h2 hs).mono ?_)
   rintro e w' ⟨u,v',φ',H',rfl,k1,k2,k3,k4,rfl,rfl⟩
   exact hK v' w' φ' k1 k2 k3 k4
  |round i args=>
   rw[hq]at he hg
   simp only at he hg
   obtain⟨inf,L,args',h1,h2,h3,h4,h5⟩:=hg
   rw[h5]
   refine⟨(fun hx=>by cases hx), ?_⟩
   refine(hfe.round w0 i args H v H₁ he φ w args' inf L r h4 hs h1 h2).mono ?_
   rintro e w' ⟨v',φ',rfl,k1,k2,k3,k4⟩
   exact hK v' w' φ' k1 k2 k3 k4
  |bad=>rw[hq]at he;cases he
 unfold a2g at h
 split at h
 ·cases hg:(evR P o.op a H).get with
  |none=>rw[hg]at h;cases h
  |some u=>rw[hg]at h;exact read hg h
 ·cases hg:(evR P o.op a H).get with
  |none=>rw[hg]at h;cases h
  |some u=>rw[hg]at h;exact read hg h
 ·exact write h
theorem b2M{a b:VA}(h:b7d a b=true):a=b:=by
 obtain⟨ab,ao⟩:=a
 obtain⟨bb,bo⟩:=b
 unfold b7d at h
 cases ab with
 |base r=>cases bb with
  |base s=>
   simp only at h
   cases hr:Nat.beq r s with
   |false=>rw[hr]at h;cases h
   |true=>rw[hr]at h;rw[Nat.eq_of_beq_eq_true hr,Nat.eq_of_beq_eq_true h]
  |loc s=>cases h
  |sym s=>cases h
 |sym r=>cases bb with
  |base s=>cases h
  |loc s=>cases h
  |sym s=>
   simp only at h
   cases hr:Nat.beq r s with
   |false=>rw[hr]at h;cases h
   |true=>rw[hr]at h;rw[Nat.eq_of_beq_eq_true hr,Nat.eq_of_beq_eq_true h]
 |loc r=>cases bb with
  |base s=>cases h
  |sym s=>cases h
  |loc s=>
   simp only at h
   cases hr:Nat.beq r s with
   |false=>rw[hr]at h;cases h
   |true=>rw[hr]at h;rw[Nat.eq_of_beq_eq_true hr,Nat.eq_of_beq_eq_true h]
theorem b3o{a b:Bool}(h:(match a with|true=>b|false=>false)=true):a=true∧b=true:=by
 cases a with
 |true=>exact⟨rfl,h⟩
 |false=>cases h
mutual
theorem a9p: ∀(x y:VV),a2T x y=true→x=y
 |.bool a,y,h=>by
  cases y with
  |bool b=>cases a<;>cases b<;>first|rfl|(simp[a2T]at h;done)
  |_=>simp[a2T]at h
 |.int k a,y,h=>by
  cases y with
  |int k' b=>
   simp only[a2T]at h
   obtain⟨h1,h2⟩:=b3o h
   rw[of_decide_eq_true h2,of_decide_eq_true (show decide (k=k')=true from h1)]
  |_=>simp[a2T]at h
 |.string a,y,h=>by
  cases y with
  |string b=>
   simp only[a2T]at h
   unfold a6w at h
   rw[a5I]at h
   have h1:a.data.toList=b.data.toList:=by simpa using h
   have h2:a.data=b.data:=Array.toList_inj.1 h1
   obtain⟨a⟩:=a
   obtain⟨b⟩:=b
   simp only at h2
   rw[h2]
  |_=>simp[a2T]at h
 |.ptr none,y,h=>by
  cases y with
  |ptr p=>cases p with
   |none=>rfl
   |some q=>simp[a2T]at h
  |_=>simp[a2T]at h
 |.ptr (some a),y,h=>by
  cases y with
  |ptr p=>cases p with
   |none=>simp[a2T]at h
   |some q=>simp only[a2T]at h;rw[b2M h]
  |_=>simp[a2T]at h
 |.slice none l c,y,h=>by
  cases y with
  |slice p l' c'=>cases p with
   |none=>
    simp only[a2T]at h
    obtain⟨h1,h2⟩:=b3o h
    rw[Nat.eq_of_beq_eq_true h1,Nat.eq_of_beq_eq_true h2]
   |some q=>simp[a2T]at h
  |_=>simp[a2T]at h
 |.slice (some a) l c,y,h=>by
  cases y with
  |slice p l' c'=>cases p with
   |none=>simp[a2T]at h
   |some q=>
    simp only[a2T]at h
    obtain⟨h0,h⟩:=b3o h
    obtain⟨h1,h2⟩:=b3o h
    rw[b2M h0,Nat.eq_of_beq_eq_true h1,Nat.eq_of_beq_eq_true h2]
  |_=>simp[a2T]at h
 |.sliceE,y,h=>by cases y<;>simp[a2T]at h
 |.any,y,h=>by cases y<;>simp[a2T]at h
 |.one,y,h=>by cases y<;>simp[a2T]at h
 |.sint k i,y,h=>by
  cases y with
  |sint k' j=>
   simp only[a2T]at h
   obtain⟨h1,h2⟩:=b3o h
   rw[Nat.eq_of_beq_eq_true h2,of_decide_eq_true (show decide (k=k')=true from h1)]
  |_=>simp[a2T]at h
 |.sym i,y,h=>by
  cases y with
  |sym j=>simp only[a2T]at h;rw[Nat.eq_of_beq_eq_true h]
  |_=>simp[a2T]at h
 |.map none,y,h=>by
  cases y with
  |map p=>cases p with
   |none=>rfl
   |some q=>simp[a2T]at h
  |_=>simp[a2T]at h
 |.map (some a),y,h=>by
  cases y with
  |map p=>cases p<;>simp[a2T]at h
  |_=>simp[a2T]at h
 |.func f a b,y,h=>by
  cases y with
  |func g c d=>cases f with
   |func f=>cases g with
    |func g=>
     simp only[a2T]at h
     obtain⟨h0,h⟩:=b3o h
     obtain⟨h1,h2⟩:=b3o h
     rw[Nat.eq_of_beq_eq_true h0,vvsEq_eq a c h1,vvsEq_eq b d h2]
    |_=>simp[a2T]at h
   |_=>simp[a2T]at h
  |_=>simp[a2T]at h
 |.yield i,y,h=>by cases y<;>simp[a2T]at h
 |.nilFunc,y,h=>by
  cases y with
  |nilFunc=>rfl
  |_=>simp[a2T]at h
 |.iface t x,y,h=>by
  cases y with
  |iface u z=>
   simp only[a2T]at h
   obtain⟨h0,h1⟩:=b3o h
   rw[Nat.eq_of_beq_eq_true h0,a9p x z h1]
  |_=>simp[a2T]at h
 |.nilIface,y,h=>by
  cases y with
  |nilIface=>rfl
  |_=>simp[a2T]at h
 |.agg a,y,h=>by
  cases y with
  |agg b=>simp only[a2T]at h;rw[vvsEq_eq a b h]
  |_=>simp[a2T]at h
 |.tuple a,y,h=>by
  cases y with
  |tuple b=>simp only[a2T]at h;rw[vvsEq_eq a b h]
  |_=>simp[a2T]at h
theorem vvsEq_eq: ∀(x y:List VV),vvsEq x y=true→x=y
 | [],y,h=>by
  cases y with
  |nil=>rfl
  |cons u l=>simp[vvsEq]at h
 |x::a,y,h=>by
  cases y with
  |nil=>simp[vvsEq]at h
  |cons u l=>
   simp only[vvsEq]at h
   obtain⟨h0,h1⟩:=b3o h
   rw[a9p x u h0,vvsEq_eq a l h1]
end
theorem b1X{P:Program}{a:VT}{H:VH}{o:Oper}(h:still P a H o=true): ∃v,(evR P o.op a H).get=some v∧ ∀d,o.dst=some d→a1d a d=v:=by
 unfold still at h
 cases hg:(evR P o.op a H).get with
 |none=>rw[hg]at h;cases h
 |some v=>
  rw[hg]at h
  refine⟨v,rfl,fun d hd=> ?_⟩
  rw[hd]at h
  exact(a9p _ _ h).symm
theorem a4C{P:Program}{all:List Oper}{mk:List Nat}{e:Nat}{a:VT}{H:VH}: ∀{l:List Nat},a3r P all mk e a H l=true→ ∀p∈l,rch mk p e=false→ ∀o,a0k all p=some o→still P a H o=true
 | [],_,p,hp,_,_,_=>by cases hp
 |x::l,h,p,hp,hr,o,ho=>by
  simp only[a3r]at h
  obtain⟨h1,h2⟩:=b3o h
  rcases List.mem_cons.1 hp with rfl|hp
  ·rw[hr,ho]at h1
   exact h1
  ·exact a4C h2 p hp hr o ho
theorem a6V{mk:List Nat}{e:Nat}: ∀{l:List Nat} {p:Nat},p∈l→rch mk p e=false→p∈a4z mk e l
 | [],_,hp,_=>by cases hp
 |x::l,p,hp,hr=>by
  simp only[a4z]
  rcases List.mem_cons.1 hp with rfl|hp
  ·rw[hr];simp
  ·have:=a6V (l:=l) hp hr
   cases rch mk x e with
   |true=>exact this
   |false=>simp[this]
end Go.Ev
namespace Go.Ev
theorem a7M{nt:Nat}{a a₁:VT}{d:Option Nat}{v:VV}(h:a4o nt a d v=some a₁):(d=none∧a₁=a)∨ ∃t,d=some t∧t<nt∧a₁=a.put t v:=by
 cases d with
 |none=>simp only[a4o,Option.some.injEq]at h;exact .inl ⟨rfl,h.symm⟩
 |some t=>
  simp only[a4o]at h
  cases hb:Nat.blt t nt with
  |false=>rw[hb]at h;cases h
  |true=>rw[hb]at h;simp only[Option.some.injEq]at h;exact .inr ⟨t,rfl,a1B hb,h.symm⟩
theorem a2I{nt:Nat}(hb:nt≤top){a a₁:VT}{d:Option Nat}{v:VV}(h:a4o nt a d v=some a₁)(t:Nat):a1d a₁ t=if d=some t then v else a1d a t:=by
 rcases a7M h with⟨rfl,rfl⟩|⟨u,rfl,hu,rfl⟩
 ·simp
 ·by_cases e:t=u
  ·subst e;simp[a1d,TT.get_put_same a t v (by omega)]
  ·rw[if_neg (by simp;exact fun h=>e h.symm)]
   simp[a1d,TT.get_put_other a u t v e]
theorem a0c(act:Act)(d:Option Nat)(v:Value)(t:Nat):(act.put d v).tmps.getD t undef=if d=some t∧t<act.tmps.size then v else act.tmps.getD t undef:=by
 cases d with
 |none=>simp[Act.put]
 |some u=>
  simp only[Act.put,Array.getD_eq_getD_getElem?,Array.getElem?_setIfInBounds,Option.some.injEq]
  by_cases e:u=t
  ·subst e
   by_cases hs:u<act.tmps.size
   ·simp[hs]
   ·simp[hs]
  ·rw[if_neg e,if_neg (by simp[e])]
theorem a5f(act:Act)(d:Option Nat)(v:Value):(act.put d v).tmps.size=act.tmps.size:=by
 cases d<;>simp[Act.put]
theorem a7k(act:Act)(d:Option Nat)(v:Value):(act.put d v).defers=act.defers:=by
 cases d<;>rfl
def Lb(L:Array Bool)(i:Nat):Bool:=L.getD i false
theorem b3i{L:Array Bool}{i:Nat}(h:i<L.size)(j:Nat):Lb (L.setIfInBounds i true) j=if j=i then true else Lb L j:=by
 unfold Lb
 by_cases e:j=i
 ·subst e;simp[h]
 ·rw[if_neg e,getD_set_ne false (Ne.symm e)]
theorem HSim.adopt{w0:World}{φ:Phi}{H:VH}{w:World}(h:HSim w0 φ H w)(hn:H.next<top){b:Nat}{o:VO}{o':Obj}(hw:w.heap[b]? =some o')(hun: ∀j inf,φ j=some inf→inf.blk≠b)(hb:H.base.blk b=none)(h0:w0.heap.size≤b)
  (ho:OR φ ⟨b,0,0⟩ o o'):HSim w0 (φ.ext H.next ⟨b,0,0⟩) (H.alloc o) w:=by
 have hf:=h.fresh H.next (Nat.le_refl _)
 have hle:=Phi.le_ext (φ:=φ) ⟨b,0,0⟩ hf
 have hgo: ∀j x,(H.locs.put H.next o).get j=some x→j≠H.next→H.locs.get j=some x:=fun j x hx e=>by rwa [TT.get_put_other _ _ _ _ e]at hx
 have old: ∀k y,k≠H.next→φ.ext H.next ⟨b,0,0⟩ k=some y→φ k=some y:=fun k y hk e=>by simpa[Phi.ext,hk]using e
 refine⟨h.env.mono hle,h.base,h.old, ?_,hn, ?_, ?_, ?_, ?_⟩
 ·intro i inf hi
  by_cases e:i=H.next
  ·subst e;rw[Phi.ext_self]at hi;cases hi;exact h0
  ·exact h.own i inf (old i inf e hi)
 ·intro i x hx
  by_cases e:i=H.next
  ·subst e
   rw[show(H.alloc o).locs=H.locs.put H.next o from rfl,TT.get_put_same _ _ _ hn]at hx
   cases hx
   exact⟨_,o',Phi.ext_self _ _ _,hw,ho.mono hle,hb⟩
  ·obtain⟨inf,x',h1,h2,h3,h4⟩:=h.live i x (hgo i x hx e)
   exact⟨inf,x',hle.1 i inf h1,h2,h3.mono hle,h4⟩
 ·intro i j oi oj inf jnf hi hj hfi hfj hbb
  by_cases ei:i=H.next
  ·by_cases ej:j=H.next
   ·rw[ei,ej]
   ·have hj':=old j _ ej hfj
    subst ei
    rw[Phi.ext_self]at hfi
    cases hfi
    exact absurd hbb.symm (hun j jnf hj')
  ·have hi':=old i _ ei hfi
   by_cases ej:j=H.next
   ·subst ej
    rw[Phi.ext_self]at hfj
    cases hfj
    exact absurd hbb (hun i inf hi')
   ·exact h.inj i j oi oj inf jnf (hgo i _ hi ei) (hgo j _ hj ej) hi' (old j _ ej hfj) hbb
 ·intro i hi
  have hi':H.next+1≤i:=hi
  show(if _ then _ else _)=none
  rw[if_neg (by omega)]
  exact h.fresh i (by omega)
 ·intro i inf hi
  by_cases e:i=H.next
  ·subst e;rw[Phi.ext_self]at hi;cases hi;exact(Array.getElem?_eq_some_iff.1 hw).1
  ·exact h.bound i inf (old i inf e hi)
theorem St.adopt{φ0:Phi}{ws:World}{φ:Phi}{w:World}(h:St φ0 ws φ w){n b:Nat}(hn:φ n=none)(hb:ws.heap.size≤b):St φ0 ws (φ.ext n ⟨b,0,0⟩) w:=by
 refine⟨Phi.le_trans h.le (Phi.le_ext _ hn),h.wk,h.frame,fun i inf hi=> ?_⟩
 simp only[Phi.ext]at hi
 split at hi
 ·cases hi;exact .inr hb
 ·exact h.own i inf hi
structure Ctx where
 P:Program
 fe:FE
 nt:Nat
 all:List Oper
 ks:List SK
 ms:List Nat
 w0:World
 ws:World
 φ0:Phi
 H0:VH
 sz:Nat
 ld:List (Nat×VV)
 ds:List Deferred
 res:VT×VH
structure Ctx.Ok(C:Ctx):Prop where
 ng:b0q C.P
 fe:FEok C.P C.fe
 nt:C.nt≤top
 sz:C.nt≤C.sz
 ms:C.ms=a3m C.all []
 ks:C.ks=kinds C.P C.all C.ms C.all.length 0 [] 0 C.all
 ld:C.ld=a1c C.P C.all C.ks
 ldt: ∀p∈C.ld,p.1<C.nt
 pairs:Pairs C.all C.ks C.ms
def Told(C:Ctx)(a:VT)(H:VH)(pd:List Nat)(i:Nat)(o:Oper):Prop:=
 gOk C.all a o.guard=true∧((a1T C.all a o.guard=false∧ ∀d,o.dst=some d→a1d a d=a3D)∨
  (a1T C.all a o.guard=true∧ ∃v,(evR C.P o.op a H).get=some v∧(∀d,o.dst=some d→a1d a d=v)∧(cls C.P o.op=0∨i∈pd)))
def b7c(C:Ctx)(φ:Phi)(H:VH)(act:Act)(w:World)(b:Nat)(o:Oper)(ρe:Operand→Value):Prop:=
 ∃(k:NK) (obj:Obj),(∀w',(execOp ρe o).run C.P w'= .ok (.value (k.real w'.heap.size)) (w'.alloc obj))∧w.heap[b]? =some obj∧(∀d,o.dst=some d→act.tmps.getD d undef=k.real b)∧C.ws.heap.size≤b∧C.w0.heap.size≤b∧H.base.blk b=none∧(∀j inf,φ j=some inf→inf.blk≠b)
def b7b(C:Ctx)(act:Act)(o:Oper)(ρe:Operand→Value):Prop:=
 ∃v',(∀w',(execOp ρe o).run C.P w'= .ok (.value v') w')∧(∀d,o.dst=some d→act.tmps.getD d undef=v')
def Early(C:Ctx)(φ:Phi)(H:VH)(act:Act)(w:World)(b:Nat)(o:Oper):Prop:=
 ∃ρe,(∀x∈o.op.operands,ρe x=act.eval x)∧((cls C.P o.op=2∧b7c C φ H act w b o ρe)∨(isU o.op=true∧b7b C act o ρe))
def isN(C:Ctx)(i:Nat):Prop:= ∃o,a0k C.all i=some o∧cls C.P o.op=2
structure Inv(C:Ctx)(done rest:List Nat)(a:VT)(H:VH)(pd:List Nat)(L:Array Bool)(act actg:Act)(w:World)(φ:Phi)(bl:Nat→Nat):Prop where
 run:a8b C.P C.fe C.nt C.all C.ks C.ms C.ld rest a H pd=some C.res
 ord:a5Z C.all C.ks C.ms done rest=true
 cov: ∀i,i<C.all.length→i∈done∨i∈rest
 dlt: ∀i∈done,∃o,a0k C.all i=some o
 closed: ∀j o,j∈done→a0k C.all j=some o→ ∀e∈o.after.toList,a1M e=true→e.on∈done
 Lsz:L.size=C.all.length
 Lcl: ∀j o,Lb L j=true→a0k C.all j=some o→ ∀e∈o.after.toList,a1M e=true→Lb L e.on=true
 early: ∀i∈rest,Lb L i=true→a1N C.ks i= .a
 late: ∀i∈done,Lb L i=false→a1N C.ks i= .r
 tr:TR φ a actg.tmps
 sz1:act.tmps.size=C.sz
 sz2:actg.tmps.size=C.sz
 defs:act.defers=C.ds
 agree: ∀t,(∀i,a1S C.all i=some t→(i∈done→Lb L i=true)∧(i∈rest→Lb L i=false))→act.tmps.getD t undef=actg.tmps.getD t undef
 reads: ∀i o,i∈done→Lb L i=false→a0k C.all i=some o→Told C a H pd i o
 allocs: ∀i o,i∈rest→Lb L i=true→a0k C.all i=some o→Early C φ H act w (bl i) o
 dist: ∀i j,i∈rest→j∈rest→Lb L i=true→Lb L j=true→isN C i→isN C j→bl i=bl j→i=j
 lval: ∀i o,a1N C.ks i= .a→Lb L i=true→a0k C.all i=some o→ ∀d,o.dst=some d→VR φ (a4a C.P o.type) (act.tmps.getD d undef)
 sim:HSim C.w0 φ H w
 st:St C.φ0 C.ws φ w
 base:H.base=C.H0.base
theorem a0O{all:List Oper}{i:Nat}{o:Oper}(h:a0k all i=some o):a1S all i=o.dst:=by simp[a1S,h]
theorem a0v{all:List Oper}{i:Nat}{o:Oper}(h:a0k all i=some o):a0y all i=looks all o:=by simp[a0y,h]
theorem a0e{all:List Oper}{i:Nat}{o:Oper}(h:a0k all i=some o):i<all.length:=by
 rw[a1H]at h;exact(List.getElem?_eq_some_iff.1 h).1
section
variable{C:Ctx}{done rest:List Nat}{a:VT}{H:VH}{pd:List Nat}{L:Array Bool}{act actg:Act}{w:World}{φ:Phi}{bl:Nat→Nat}
theorem Inv.predD(ok:C.Ok)(I:Inv C done rest a H pd L act actg w φ bl){j x:Nat}(hr:rch C.ms x j=true)(he: ∀o,a0k C.all j=some o→ ∀e∈o.after.toList,a1M e=true→e.on∈done):x∈done:=by
 rw[ok.ms]at hr
 exact a7L (L:=fun i=>i∈done) (fun j o hj ho=>I.closed j o hj ho) j x hr he
theorem Inv.predL(ok:C.Ok)(I:Inv C done rest a H pd L act actg w φ bl){j x:Nat}(hr:rch C.ms x j=true)(he: ∀o,a0k C.all j=some o→ ∀e∈o.after.toList,a1M e=true→Lb L e.on=true):Lb L x=true:=by
 rw[ok.ms]at hr
 exact a7L (L:=fun i=>Lb L i=true) (fun j o hj ho=>I.Lcl j o hj ho) j x hr he
theorem Inv.apart(I:Inv C done rest a H pd L act actg w φ bl){x:Nat}(h:x∈rest):x∉done:=(a3G I.ord x h).1
theorem Inv.nohit(ok:C.Ok)(I:Inv C done rest a H pd L act actg w φ bl){x k d:Nat}(hx:x∉done)(hk:k∈done)(hd:a1S C.all x=some d)(hq:a1N C.ks x≠ .e∨rch C.ms k x=false):d∉a0y C.all k∧a1S C.all k≠some d:=by
 have hne:k≠x:=fun e=>hx (e▸hk)
 obtain⟨ok',hok⟩:=I.dlt k hk
 have key:b2y C.all d k=true→False:=by
  intro hh
  have:rch C.ms x k=true:=by
   by_cases hkx:a1N C.ks x= .e
   ·rcases ok.pairs.eff x d hd hkx k (a0e hok) hne hh with h|h
    ·exact h
    ·rcases hq with hq|hq
     ·exact absurd hkx hq
     ·rw[h]at hq;cases hq
   ·exact ok.pairs.tame x d hd hkx k (a0e hok) hne hh
  exact hx (I.predD ok this fun o ho=>I.closed k o hk ho)
 exact⟨fun h=>key (a5k.2 (.inl h)),fun h=>key (a5k.2 (.inr h))⟩
theorem Inv.same(ok:C.Ok)(I:Inv C done rest a H pd L act actg w φ bl){j:Nat}{o:Oper}(ho:a0k C.all j=some o)(hL:Lb L j=false)
  (hd: ∀e∈o.after.toList,a1M e=true→e.on∈done) (hr: ∀e∈o.after.toList,a1M e=true→Lb L e.on=true):Same C.all o act actg:=by
 have hd': ∀o',a0k C.all j=some o'→ ∀e∈o'.after.toList,a1M e=true→e.on∈done:=fun o' ho'=>by rw[ho]at ho';cases ho';exact hd
 have hr': ∀o',a0k C.all j=some o'→ ∀e∈o'.after.toList,a1M e=true→Lb L e.on=true:=fun o' ho'=>by rw[ho]at ho';cases ho';exact hr
 intro t ht
 have ht':t∈a0y C.all j:=by rw[a0v ho];exact ht
 refine I.agree t fun x hx=> ?_
 by_cases e:x=j
 ·subst e
  refine⟨fun hxd=> ?_,fun _=>hL⟩
  have:=I.late x hxd hL
  exact absurd ht' (ok.pairs.self x t (a2Y hx) hx (by rw[this];simp))
 ·refine⟨fun hxd=> ?_,fun hxr=> ?_⟩
  ·cases hq:Lb L x with
   |true=>rfl
   |false=>
    have:=I.late x hxd hq
    have:=ok.pairs.tame x t hx (by rw[this];simp) j (a0e ho) (Ne.symm e) (a5k.2 (.inl ht'))
    rw[I.predL ok this hr']at hq
    cases hq
  ·cases hq:Lb L x with
   |false=>rfl
   |true=>
    have:=I.early x hxr hq
    have:=ok.pairs.tame x t hx (by rw[this];simp) j (a0e ho) (Ne.symm e) (a5k.2 (.inl ht'))
    exact absurd (I.predD ok this hd') (I.apart hxr)
end
theorem a3R{P:Program}{fe:FE}{nt:Nat}{all:List Oper}{ks:List SK}{mk:List Nat}{ld:List (Nat×VV)}{i:Nat}{rest:List Nat}{a:VT}{H:VH}{pd:List Nat}{r:VT×VH}(h:a8b P fe nt all ks mk ld (i::rest) a H pd=some r){o:Oper}(ho:a0k all i=some o):
  gOk all a o.guard=true∧((a1T all a o.guard=false∧ ∃a₁,a4o nt a o.dst a3D=some a₁∧a8b P fe nt all ks mk ld rest a₁ H pd=some r)∨
  (a1T all a o.guard=true∧a1N ks i= .r∧ ∃v a₁,(evR P o.op a H).get=some v∧a4o nt a o.dst v=some a₁∧a8b P fe nt all ks mk ld rest a₁ H (match cls P o.op with|0=>pd|_=>i::pd)=some r)∨
  (a1T all a o.guard=true∧a1N ks i≠ .r∧(a1N ks i= .a→a7S P ld o a=true)∧ ∃v H₁ a₁,a2g P fe o.op a H=some (v,H₁)∧a3r P all mk i a H₁ pd=true∧a4o nt a o.dst v=some a₁∧a8b P fe nt all ks mk ld rest a₁ H₁ (a4z mk i pd)=some r)):=by
 simp only[a8b,ho]at h
 cases hgo:gOk all a o.guard with
 |false=>rw[hgo]at h;cases h
 |true=>
 rw[hgo]at h
 simp only at h
 refine⟨rfl, ?_⟩
 cases hw:a1T all a o.guard with
 |false=>
  rw[hw]at h
  simp only at h
  cases hp:a4o nt a o.dst a3D with
  |none=>rw[hp]at h;cases h
  |some a₁=>rw[hp]at h;exact .inl ⟨rfl,a₁,rfl,h⟩
 |true=>
  rw[hw]at h
  simp only at h
  have other:(match a2g P fe o.op a H with
     |some (v,H₁)=>match a3r P all mk i a H₁ pd with
      |true=>match a4o nt a o.dst v with
       |some a₁=>a8b P fe nt all ks mk ld rest a₁ H₁ (a4z mk i pd)
       |none=>none
      |false=>none
     |none=>none)=some r→ ∃v H₁ a₁,a2g P fe o.op a H=some (v,H₁)∧a3r P all mk i a H₁ pd=true∧a4o nt a o.dst v=some a₁∧a8b P fe nt all ks mk ld rest a₁ H₁ (a4z mk i pd)=some r:=by
   intro h
   cases hr:a2g P fe o.op a H with
   |none=>rw[hr]at h;cases h
   |some vh=>
    obtain⟨v,H₁⟩:=vh
    rw[hr]at h
    simp only at h
    cases hs:a3r P all mk i a H₁ pd with
    |false=>rw[hs]at h;cases h
    |true=>
     rw[hs]at h
     simp only at h
     cases hp:a4o nt a o.dst v with
     |none=>rw[hp]at h;cases h
     |some a₁=>rw[hp]at h;exact⟨v,H₁,a₁,rfl,hs,hp,h⟩
  cases hk:a1N ks i with
  |r=>
   rw[hk]at h
   simp only at h
   cases hr:(evR P o.op a H).get with
   |none=>rw[hr]at h;cases h
   |some v=>
    rw[hr]at h
    simp only at h
    cases hp:a4o nt a o.dst v with
    |none=>rw[hp]at h;cases h
    |some a₁=>rw[hp]at h;exact .inr (.inl ⟨rfl,rfl,v,a₁,rfl,hp,h⟩)
  |a=>
   rw[hk]at h
   simp only at h
   cases hlo:a7S P ld o a with
   |false=>rw[hlo]at h;cases h
   |true=>rw[hlo]at h;exact .inr (.inr ⟨rfl,by simp,fun _=>rfl,other h⟩)
  |e=>rw[hk]at h;exact .inr (.inr ⟨rfl,by simp,(fun e=>by cases e),other h⟩)
end Go.Ev
