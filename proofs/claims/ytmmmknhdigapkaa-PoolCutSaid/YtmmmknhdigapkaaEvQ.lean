/- Engine, part O: regions that draw their order: facts about the checks. -/
import Derived.Test.YtmmmknhdigapkaaEvN
namespace Go.Ev
theorem a6i{x:Nat}: ∀{l:List Nat},a9z x l=true↔x∈l
 | []=>by simp[a9z]
 |y::l=>by
  simp only[a9z];cases h:Nat.beq x y with
  |true=>simp[Nat.eq_of_beq_eq_true h]
  |false=>
   have:x≠y:=fun e=>by rw[e]at h;simp at h
   simp[this,a6i (l:=l)]
theorem a3O{x:Nat}{l:List Nat}:a9z x l=false↔x∉l:=by rw[←a6i];simp
theorem a3L{p:Nat→Bool}: ∀{l:List Nat},b9D p l=true↔ ∀x∈l,p x=true
 | []=>by simp[b9D]
 |y::l=>by
  simp only[b9D];cases h:p y with
  |true=>simp[h,a3L (l:=l)]
  |false=>simp[h]
theorem a2A: ∀{n s i:Nat},i∈upto n s↔s≤i∧i<s+n
 |0,s,i=>by simp[upto]
 |n+1,s,i=>by simp only[upto,List.mem_cons,a2A (n:=n)];omega
theorem c3F(e:Edge):a1h e=Region.binds .any e:=by unfold a1h Region.binds;cases e.ground<;>rfl
theorem b5R{l:List Nat}{i:Nat}:d0C l i=(l[i]?).getD 0:=by unfold d0C;rw[a0K];cases l[i]? <;>rfl
theorem a6H{acc:List Nat}{i:Nat}: ∀{es:List Edge},Nat.testBit (a2l acc es) i=true→ ∃e∈es,a1h e=true∧(i=e.on∨Nat.testBit (d0C acc e.on) i=true)
 | [],h=>by simp[a2l]at h
 |e::r,h=>by
  simp only[a2l]at h;cases hb:a1h e with
  |true=>
   rw[hb]at h;simp only[Nat.testBit_or,Bool.or_eq_true,Nat.testBit_two_pow,decide_eq_true_eq]at h;rcases h with(h|h)|h
   ·exact⟨e,by simp,hb,.inl h.symm⟩
   ·exact⟨e,by simp,hb,.inr h⟩
   ·obtain⟨e',h1,h2⟩:=a6H h;exact⟨e',by simp[h1],h2⟩
  |false=>rw[hb]at h;obtain⟨e',h1,h2⟩:=a6H h;exact⟨e',by simp[h1],h2⟩
theorem b4A: ∀(l:List Oper) (acc:List Nat),(∃t,a6w l acc=acc++t∧t.length=l.length)∧ ∀j o,l[j]? =some o→ ∃acc' t',a6w l acc=acc'++t'∧acc'.length=acc.length+j∧d0C (a6w l acc) (acc.length+j)=a2l acc' o.after.toList
 | [],acc=>⟨⟨[],by simp[a6w]⟩,fun j o h=>by simp at h⟩
 |o::l,acc=>by
  obtain⟨⟨t,h1,h2⟩,h3⟩:=b4A l (acc++ [a2l acc o.after.toList]);refine⟨⟨a2l acc o.after.toList::t,by simp[a6w,h1],by simp[h2]⟩,fun j o' h=> ?_⟩;cases j with
  |zero=>simp only[List.getElem?_cons_zero,Option.some.injEq]at h;subst h;refine⟨acc,a2l acc o.after.toList::t,by simp[a6w,h1],by simp, ?_⟩;simp[a6w,h1,b5R]
  |succ j=>simp only[List.getElem?_cons_succ]at h;obtain⟨acc',t',k1,k2,k3⟩:=h3 j o' h;refine⟨acc',t',by simp[a6w,k1],by simp at k2;omega, ?_⟩;simp only[List.length_append,List.length_singleton]at k3;rw[show acc.length+(j+1)=acc.length+1+j by omega];simp only[a6w];exact k3
theorem b3p{all:List Oper}{L:Nat→Prop}(hL: ∀j o,L j→a0H all j=some o→ ∀e∈o.after.toList,a1h e=true→L e.on):
  ∀(j i:Nat),rch (a6w all []) i j=true→(∀o,a0H all j=some o→ ∀e∈o.after.toList,a1h e=true→L e.on)→L i:=by
 intro j
 induction j using Nat.strongRecOn with
 |ind j ih=>
  intro i hr he;obtain⟨⟨t,h1,h2⟩,h3⟩:=b4A all [];simp only[List.nil_append,List.length_nil,Nat.zero_add]at h1 h3;unfold rch at hr;cases ho:all[j]? with
  |none=>
   have:(a6w all [])[j]? =none:=by rw[h1,List.getElem?_eq_none_iff,h2];exact List.getElem?_eq_none_iff.1 ho
   rw[b5R,this]at hr;simp at hr
  |some o=>
   obtain⟨acc',t',k1,k2,k3⟩:=h3 j o ho;rw[k3]at hr;obtain⟨e,m1,m2,m3⟩:=a6H hr;have hL':=he o (by rw[a0K];exact ho) e m1 m2;rcases m3 with rfl|m3
   ·exact hL'
   ·rw[b5R]at m3;cases hg:acc'[e.on]? with
    |none=>rw[hg]at m3;simp at m3
    |some x=>have hlt:e.on<acc'.length:=(List.getElem?_eq_some_iff.1 hg).1;refine ih e.on (by omega) i ?_ (fun o' ho' e' he' hb'=>hL e.on o' hL' ho' e' he' hb');unfold rch;rw[b5R,k1,List.getElem?_append_left hlt];exact m3
theorem a6R{before:List Nat}: ∀{es:List Edge},a9i before es=true→ ∀e∈es,a1h e=true→e.on∈before
 | [],_,e,he,_=>by cases he
 |x::r,h,e,he,hb=>by
  simp only[a9i]at h;cases hx:a1h x with
  |true=>
   rw[hx]at h;simp only at h;cases hm:a9z x.on before with
   |false=>rw[hm]at h;cases h
   |true=>
    rw[hm]at h;rcases List.mem_cons.1 he with rfl|he
    ·exact a6i.1 hm
    ·exact a6R h e he hb
  |false=>
   rw[hx]at h;rcases List.mem_cons.1 he with rfl|he
   ·rw[hx]at hb;cases hb
   ·exact a6R h e he hb
theorem b2t{ks:List SK}{mk:List Nat}{i:Nat}: ∀{l:List Nat},d4O ks mk i l=true→ ∀e∈l,a1D ks e= .e→rch mk e i=true
 | [],_,e,he,_=>by cases he
 |x::l,h,e,he,hk=>by
  simp only[d4O]at h;rcases List.mem_cons.1 he with rfl|he
  ·rw[hk]at h;simp only at h;cases hr:rch mk e i with
   |true=>rfl
   |false=>rw[hr]at h;cases h
  ·refine b2t (l:=l) ?_ e he hk;cases hx:a1D ks x with
   |r=>rw[hx]at h;exact h
   |a=>rw[hx]at h;exact h
   |e=>
    rw[hx]at h;simp only at h;cases hr:rch mk x i with
    |true=>rw[hr]at h;exact h
    |false=>rw[hr]at h;cases h
theorem b2X{ks:List SK}{mk:List Nat}{i:Nat}: ∀{r:List Nat},b4E ks mk i r=true→ ∀j∈r,a1D ks j≠ .a→ ∃pre k post,r=pre++k::post∧a1D ks k= .e∧rch mk i k=true∧(j=k∨j∈post)
 | [],_,j,hj,_=>by cases hj
 |x::r,h,j,hj,hk=>by
  simp only[b4E]at h;cases hx:a1D ks x with
  |r=>rw[hx]at h;cases h
  |e=>rw[hx]at h;exact⟨[],x,r,rfl,hx,h,by simpa using hj⟩
  |a=>
   rw[hx]at h;rcases List.mem_cons.1 hj with rfl|hj
   ·exact absurd hx hk
   ·obtain⟨pre,k,post,h1,h2⟩:=b2X h j hj hk;exact⟨x::pre,k,post,by simp[h1],h2⟩
theorem a0j{all:List Oper}{ks:List SK}{mk:List Nat}{before:List Nat}{i:Nat}{rest:List Nat}(h:a9J all ks mk before (i::rest)=true):
  ∃o,a0H all i=some o∧i∉before∧(∀e∈o.after.toList,a1h e=true→e.on∈before)∧(a1D ks i= .a→o.guard=none∧b4E ks mk i rest=true)∧(a1D ks i≠ .a→ ∀e∈before,a1D ks e= .e→rch mk e i=true)∧a9J all ks mk (i::before) rest=true:=by
 simp only[a9J]at h;cases ho:a0H all i with
 |none=>rw[ho]at h;cases h
 |some o=>
  rw[ho]at h;simp only at h;cases hm:a9z i before with
  |true=>rw[hm]at h;cases h
  |false=>
   rw[hm]at h;simp only at h;cases ha:a9i before o.after.toList with
   |false=>rw[ha]at h;cases h
   |true=>
    rw[ha]at h;simp only at h;refine⟨o,rfl,a3O.1 hm,a6R ha, ?_⟩;cases hk:a1D ks i with
    |a=>
     rw[hk]at h;simp only at h;cases hg:o.guard with
     |some _=>rw[hg]at h;cases h
     |none=>
      rw[hg]at h;simp only at h;cases hh:b4E ks mk i rest with
      |false=>rw[hh]at h;cases h
      |true=>rw[hh]at h;exact⟨fun _=>⟨rfl,rfl⟩,fun hn=>absurd rfl hn,h⟩
    |r=>
     rw[hk]at h;simp only at h;cases he:d4O ks mk i before with
     |false=>rw[he]at h;cases h
     |true=>rw[he]at h;exact⟨(fun hn=>by cases hn),fun _=>b2t he,h⟩
    |e=>
     rw[hk]at h;simp only at h;cases he:d4O ks mk i before with
     |false=>rw[he]at h;cases h
     |true=>rw[he]at h;exact⟨(fun hn=>by cases hn),fun _=>b2t he,h⟩
theorem a4H{all:List Oper}{ks:List SK}{mk:List Nat}: ∀{rest before:List Nat},a9J all ks mk before rest=true→ ∀j∈rest,j∉before∧ ∃o,a0H all j=some o
 | [],_,_,j,hj=>by cases hj
 |i::rest,before,h,j,hj=>by
  obtain⟨o,h1,h2,_,_,_,h3⟩:=a0j h;rcases List.mem_cons.1 hj with rfl|hj
  ·exact⟨h2,o,h1⟩
  ·obtain⟨k1,k2⟩:=a4H h3 j hj;exact⟨fun hb=>k1 (by simp[hb]),k2⟩
theorem b2F{all:List Oper}{ks:List SK}{mk:List Nat}: ∀{rest before:List Nat},a9J all ks mk before rest=true→ ∀pre j post,rest=pre++j::post→a1D ks j≠ .a→ ∀e,(e∈before∨e∈pre)→a1D ks e= .e→rch mk e j=true
 | [],_,_,pre,j,post,hp,_,_,_,_=>by simp at hp
 |i::rest,before,h,pre,j,post,hp,hk,e,he,hke=>by
  obtain⟨o,h1,h2,_,_,h4,h3⟩:=a0j h;cases pre with
  |nil=>simp only[List.nil_append,List.cons.injEq]at hp;obtain⟨rfl,rfl⟩:=hp;exact h4 hk e (by simpa using he) hke
  |cons p pre=>
   simp only[List.cons_append,List.cons.injEq]at hp;obtain⟨rfl,hp⟩:=hp;refine b2F h3 pre j post hp hk e ?_ hke;rcases he with he|he
   ·exact .inl (by simp[he])
   ·rcases List.mem_cons.1 he with rfl|he
    ·exact .inl (by simp)
    ·exact .inr he
theorem b2G{d:Nat}{o:Option Nat}:b7I d o=true↔o=some d:=by
 cases o with
 |none=>simp[b7I]
 |some x=>simp only[b7I,Option.some.injEq];exact⟨fun h=>(Nat.eq_of_beq_eq_true h).symm,fun h=>by subst h;simp⟩
theorem a6n{all:List Oper}{d i:Nat}:b9f all d i=true↔d∈a0u all i∨a1H all i=some d:=by
 unfold b9f;cases h:a9z d (a0u all i)with
 |true=>simp[a6i.1 h]
 |false=>simp[a3O.1 h,b2G]
theorem a5O{all:List Oper}{mk:List Nat}{x d:Nat}: ∀{l:List Nat},tame all mk x d l=true→ ∀i∈l,(i≠x→b9f all d i=true→rch mk x i=true)∧(i=x→d∉a0u all i)
 | [],_,i,hi=>by cases hi
 |y::l,h,i,hi=>by
  simp only[tame]at h;cases hb:Nat.beq x y with
  |true=>
   rw[hb]at h;simp only at h;have hxy:=Nat.eq_of_beq_eq_true hb;cases hm:a9z d (a0u all y)with
   |true=>rw[hm]at h;cases h
   |false=>
    rw[hm]at h;rcases List.mem_cons.1 hi with rfl|hi
    ·exact⟨fun hn=>absurd hxy.symm hn,fun _=>a3O.1 hm⟩
    ·exact a5O h i hi
  |false=>
   rw[hb]at h;simp only at h;have hxy:y≠x:=fun e=>by rw[e]at hb;simp at hb
   cases hh:b9f all d y with
   |false=>
    rw[hh]at h;rcases List.mem_cons.1 hi with rfl|hi
    ·exact⟨(fun _ hc=>by rw[hh]at hc;cases hc),fun e=>absurd e hxy⟩
    ·exact a5O h i hi
   |true=>
    rw[hh]at h;simp only at h;cases hr:rch mk x y with
    |false=>rw[hr]at h;cases h
    |true=>
     rw[hr]at h;rcases List.mem_cons.1 hi with rfl|hi
     ·exact⟨fun _ _=>hr,fun e=>absurd e hxy⟩
     ·exact a5O h i hi
theorem a2o{all:List Oper}{mk:List Nat}{x d:Nat}: ∀{l:List Nat},a7U all mk x d l=true→ ∀i∈l,i≠x→b9f all d i=true→rch mk x i=true∨rch mk i x=true
 | [],_,i,hi=>by cases hi
 |y::l,h,i,hi=>by
  simp only[a7U]at h;intro hix hh;cases hb:Nat.beq x y with
  |true=>
   rw[hb]at h;have hxy:=Nat.eq_of_beq_eq_true hb;rcases List.mem_cons.1 hi with rfl|hi
   ·exact absurd hxy.symm hix
   ·exact a2o h i hi hix hh
  |false=>
   rw[hb]at h;simp only at h;cases hy:b9f all d y with
   |false=>
    rw[hy]at h;rcases List.mem_cons.1 hi with rfl|hi
    ·rw[hy]at hh;cases hh
    ·exact a2o h i hi hix hh
   |true=>
    rw[hy]at h;simp only at h;cases hr:rch mk x y with
    |true=>
     rw[hr]at h;rcases List.mem_cons.1 hi with rfl|hi
     ·exact .inl hr
     ·exact a2o h i hi hix hh
    |false=>
     rw[hr]at h;simp only at h;cases hq:rch mk y x with
     |false=>rw[hq]at h;cases h
     |true=>
      rw[hq]at h;rcases List.mem_cons.1 hi with rfl|hi
      ·exact .inr hq
      ·exact a2o h i hi hix hh
structure Pairs(all:List Oper)(ks:List SK)(mk:List Nat):Prop where
 tame: ∀x d,a1H all x=some d→a1D ks x≠ .e→ ∀i,i<all.length→i≠x→b9f all d i=true→rch mk x i=true
 self: ∀x d,x<all.length→a1H all x=some d→a1D ks x≠ .e→d∉a0u all x
 sole: ∀x d,a1H all x=some d→a1D ks x= .a→ ∀i,i<all.length→i≠x→a1H all i≠some d
 wr: ∀i,i<all.length→a1D ks i= .a→ ∀x d,a1H all x=some d→d∈a0u all i→rch mk x i=true
 grp: ∀i o m,a0H all i=some o→mkM o=some m→a0o all m≠[]→a1D ks i= .a∧(∀x∈a0o all m,a1D ks x= .a∧a1H all x=none)∧
  ∀j,j<all.length→j≠i→j∉a0o all m→b9f all m j=true→ ∀x∈a0o all m,rch mk x j=true
 eff: ∀x d,a1H all x=some d→a1D ks x= .e→ ∀i,i<all.length→i≠x→b9f all d i=true→rch mk x i=true∨rch mk i x=true
theorem a3J{all:List Oper}{x d:Nat}(h:a1H all x=some d):x<all.length:=by
 unfold a1H at h;rw[a0K]at h;cases hx:all[x]? with
 |none=>rw[hx]at h;cases h
 |some o=>exact(List.getElem?_eq_some_iff.1 hx).1
theorem a9C{all:List Oper}{x d:Nat}: ∀{l:List Nat},c5Y all x d l=true→ ∀i∈l,i≠x→a1H all i≠some d
 | [],_,i,hi,_=>by cases hi
 |y::l,h,i,hi,hne=>by
  simp only[c5Y]at h;cases hxy:Nat.beq x y with
  |true=>
   rw[hxy]at h;have e:=Nat.eq_of_beq_eq_true hxy;rcases List.mem_cons.1 hi with rfl|hi
   ·exact absurd e.symm hne
   ·exact a9C h i hi hne
  |false=>
   rw[hxy]at h;simp only at h;cases ho:b7I d (a1H all y)with
   |true=>rw[ho]at h;cases h
   |false=>
    rw[ho]at h;rcases List.mem_cons.1 hi with rfl|hi
    ·intro e;rw[b2G.2 e]at ho;cases ho
    ·exact a9C h i hi hne
theorem a7s{all:List Oper}{mk:List Nat}{i:Nat}: ∀{l:List Nat},d0n all mk i l=true→ ∀x∈l,∀d,a1H all x=some d→d∈a0u all i→rch mk x i=true
 | [],_,x,hx,_,_,_=>by cases hx
 |y::l,h,x,hx,d,hd,hl=>by
  simp only[d0n]at h;cases hy:a1H all y with
  |none=>
   rw[hy]at h;rcases List.mem_cons.1 hx with rfl|hx
   ·rw[hy]at hd;cases hd
   ·exact a7s h x hx d hd hl
  |some d'=>
   rw[hy]at h;simp only at h;cases hm:a9z d' (a0u all i)with
   |false=>
    rw[hm]at h;rcases List.mem_cons.1 hx with rfl|hx
    ·rw[hy]at hd;cases hd;exact absurd hl (a3O.1 hm)
    ·exact a7s h x hx d hd hl
   |true=>
    rw[hm]at h;simp only at h;cases hr:rch mk y i with
    |false=>rw[hr]at h;cases h
    |true=>
     rw[hr]at h;rcases List.mem_cons.1 hx with rfl|hx
     ·exact hr
     ·exact a7s h x hx d hd hl
theorem a6X{all:List Oper}{ks:List SK}{mk:List Nat}{n:Nat}: ∀{l:List Nat},b9j all ks mk n l=true→ ∀i∈l,a1D ks i= .a→d0n all mk i (upto n 0)=true
 | [],_,i,hi,_=>by cases hi
 |y::l,h,i,hi,hk=>by
  simp only[b9j]at h;cases hy:a1D ks y with
  |a=>
   rw[hy]at h;simp only at h;cases hw:d0n all mk y (upto n 0)with
   |false=>rw[hw]at h;cases h
   |true=>
    rw[hw]at h;rcases List.mem_cons.1 hi with rfl|hi
    ·exact hw
    ·exact a6X h i hi hk
  |r=>
   rw[hy]at h;rcases List.mem_cons.1 hi with rfl|hi
   ·rw[hy]at hk;cases hk
   ·exact a6X h i hi hk
  |e=>
   rw[hy]at h;rcases List.mem_cons.1 hi with rfl|hi
   ·rw[hy]at hk;cases hk
   ·exact a6X h i hi hk
theorem b2Z{all:List Oper}{mk:List Nat}{i m:Nat}{ins:List Nat}: ∀{l:List Nat},b2a all mk i m ins l=true→ ∀j∈l,j≠i→j∉ins→b9f all m j=true→ ∀x∈ins,rch mk x j=true
 | [],_,j,hj,_,_,_=>by cases hj
 |y::l,h,j,hj,h1,h2,h3=>by
  have tail:b2a all mk i m ins l=true→j∈l→ ∀x∈ins,rch mk x j=true:=fun h hj=>b2Z h j hj h1 h2 h3;simp only[b2a]at h;rcases List.mem_cons.1 hj with rfl|hj
  ·have e1:Nat.beq i j=false:=by
    cases hb:Nat.beq i j with
    |false=>rfl
    |true=>exact absurd (Nat.eq_of_beq_eq_true hb).symm h1
   rw[e1,a3O.2 h2,h3]at h;simp only at h;cases ha:b9D (fun x=>rch mk x j) ins with
   |false=>rw[ha]at h;cases h
   |true=>exact a3L.1 ha
  ·split at h
   ·split at h
    ·exact tail h hj
    ·cases h
   ·exact tail h hj
theorem c7J{ks:List SK}{x:Nat}:isA ks x=true↔a1D ks x= .a:=by unfold isA;cases a1D ks x<;>simp
theorem c6T{all:List Oper}{x:Nat}:d3W all x=true↔a1H all x=none:=by unfold d3W;cases a1H all x<;>simp
theorem a4f{all:List Oper}{ks:List SK}{mk:List Nat}{n:Nat}: ∀{l:List Nat},b0Q all ks mk n l=true→ ∀i∈l,∀o m,a0H all i=some o→mkM o=some m→a0o all m≠[]→
  a1D ks i= .a∧(∀x∈a0o all m,a1D ks x= .a∧a1H all x=none)∧b2a all mk i m (a0o all m) (upto n 0)=true
 | [],_,i,hi,_,_,_,_,_=>by cases hi
 |y::l,h,i,hi,o,m,ho,hm,hne=>by
  simp only[b0Q]at h;rcases List.mem_cons.1 hi with rfl|hi
  ·rw[ho]at h;simp only[hm]at h;cases hins:a0o all m with
   |nil=>exact absurd hins hne
   |cons z zs=>
    rw[hins]at h;simp only at h;split at h
    ·rename_i g1 g2 g3 g4;exact⟨c7J.1 g1,fun x hx=>⟨c7J.1 (a3L.1 g2 x hx),c6T.1 (a3L.1 g3 x hx)⟩,g4⟩
    ·cases h
  ·split at h
   ·exact a4f h i hi o m ho hm hne
   ·split at h
    ·exact a4f h i hi o m ho hm hne
    ·split at h
     ·exact a4f h i hi o m ho hm hne
     ·cases h
theorem a7Z{m:Nat}: ∀{l:List Oper} {s x:Nat},x∈a3v m s l↔s≤x∧ ∃o,a0H l (x-s)=some o∧a8x o.op=some m
 | [],s,x=>by simp[a3v,a0H]
 |o::l,s,x=>by
  have ih:= @a7Z m l (s+1) x
  have tail:(s+1≤x∧ ∃o',a0H l (x-(s+1))=some o'∧a8x o'.op=some m)↔(s<x∧ ∃o',a0H (o::l) (x-s)=some o'∧a8x o'.op=some m):=by
   constructor
   ·rintro⟨h1,h2⟩;refine⟨h1, ?_⟩;rw[show x-s=(x-(s+1))+1 by omega];exact h2
   ·rintro⟨h1,h2⟩;refine⟨h1, ?_⟩;rw[show x-s=(x-(s+1))+1 by omega]at h2;exact h2
  simp only[a3v];cases hm:a8x o.op with
  |none=>
   simp only;rw[ih,tail];constructor
   ·rintro⟨h1,h2⟩;exact⟨by omega,h2⟩
   ·rintro⟨h1,o',h2,h3⟩;refine⟨?_,o',h2,h3⟩;rcases Nat.lt_or_eq_of_le h1 with h|h
    ·exact h
    ·subst h;simp only[Nat.sub_self,a0H,Option.some.injEq]at h2;subst h2;rw[hm]at h3;cases h3
  |some m'=>
   simp only;cases hb:Nat.beq m m' with
   |true=>
    have e:=Nat.eq_of_beq_eq_true hb;subst e;simp only[List.mem_cons,ih,tail];constructor
    ·rintro(rfl|⟨h1,h2⟩)
     ·exact⟨Nat.le_refl _,o,by simp[a0H],hm⟩
     ·exact⟨by omega,h2⟩
    ·rintro⟨h1,h2⟩;rcases Nat.lt_or_eq_of_le h1 with h|h
     ·exact .inr ⟨h,h2⟩
     ·exact .inl h.symm
   |false=>
    simp only;rw[ih,tail];constructor
    ·rintro⟨h1,h2⟩;exact⟨by omega,h2⟩
    ·rintro⟨h1,o',h2,h3⟩;refine⟨?_,o',h2,h3⟩;rcases Nat.lt_or_eq_of_le h1 with h|h
     ·exact h
     ·subst h;simp only[Nat.sub_self,a0H,Option.some.injEq]at h2;subst h2;rw[hm]at h3;cases h3;simp at hb
theorem a1d{all:List Oper}{m x:Nat}:x∈a0o all m↔ ∃o,a0H all x=some o∧a8x o.op=some m:=by
 unfold a0o;rw[a7Z]
 simp
theorem a3G{m:Nat}: ∀{l:List Oper} {s:Nat},(a3v m s l).Nodup
 | [],s=>by simp[a3v]
 |o::l,s=>by
  simp only[a3v];split
  ·split
   ·refine List.nodup_cons.2 ⟨fun h=> ?_,a3G⟩;have:=(a7Z.1 h).1;omega
   ·exact a3G
  ·exact a3G
theorem a6P{l:List Nat}: ∀{r:List Nat},a7m l r=true↔ ∃x∈r,x∈l
 | []=>by simp[a7m]
 |x::r=>by
  simp only[a7m];cases hm:a9z x l with
  |true=>simp[a6i.1 hm]
  |false=>simp[a6P (r:=r),a3O.1 hm]
theorem a9R{m:Nat}: ∀{l:List Oper},c3w m l=true→ ∃i o,a0H l i=some o∧mkM o=some m
 | [],h=>by cases h
 |o::l,h=>by
  simp only[c3w]at h;cases ho:b7I m (mkM o)with
  |true=>exact⟨0,o,rfl,b2G.1 ho⟩
  |false=>rw[ho]at h;obtain⟨i,o',h1,h2⟩:=a9R h;exact⟨i+1,o',h1,h2⟩
theorem a2u{o:Oper}{m:Nat}(h:mkM o=some m):o.dst=some m:=by
 unfold mkM at h;split at h
 ·exact h
 ·cases h
theorem c0T{P:Program}{o:Oper}{m:Nat}(h:mkM o=some m):cls P o.op=2:=by
 unfold mkM at h;split at h
 ·rename_i t r he;rw[he];rfl
 ·cases h
theorem a8S{P:Program}{op:Op}{m:Nat}(h:a8x op=some m):cls P op=3:=by
 unfold a8x at h;split at h
 ·rfl
 ·cases h
theorem a7Y{op:Op}{m:Nat}(h:a8x op=some m): ∃t k v,op= .insert t (.tmp m) k v:=by
 unfold a8x at h;split at h
 ·cases h;exact⟨_,_,_,rfl⟩
 ·cases h
theorem c9T{all:List Oper}{ks:List SK}{mk:List Nat}{n:Nat}(hn:n=all.length)(hw:b9j all ks mk n (upto n 0)=true)(hg:b0Q all ks mk n (upto n 0)=true)(h: ∀x,x<n→b3t all ks mk n x=true):Pairs all ks mk:=by
 subst hn;refine⟨?_, ?_, ?_, ?_, ?_, ?_⟩
 ·intro x d hd hk i hi hne hh;have:=h x (a3J hd);unfold b3t at this;rw[hd]at this;simp only at this
  have ht:Go.Ev.tame all mk x d (upto all.length 0)=true:=by
   cases hx:a1D ks x with
   |e=>exact absurd hx hk
   |r=>rw[hx]at this;exact this
   |a=>
    rw[hx]at this;simp only at this;cases hq:Go.Ev.tame all mk x d (upto all.length 0)with
    |true=>rfl
    |false=>rw[hq]at this;cases this
  exact(a5O ht i (a2A.2 ⟨by omega,by omega⟩)).1 hne hh
 ·intro x d hx hd hk;have:=h x hx;unfold b3t at this;rw[hd]at this;simp only at this
  have ht:Go.Ev.tame all mk x d (upto all.length 0)=true:=by
   cases hx:a1D ks x with
   |e=>exact absurd hx hk
   |r=>rw[hx]at this;exact this
   |a=>
    rw[hx]at this;simp only at this;cases hq:Go.Ev.tame all mk x d (upto all.length 0)with
    |true=>rfl
    |false=>rw[hq]at this;cases this
  exact(a5O ht x (a2A.2 ⟨by omega,by omega⟩)).2 rfl
 ·intro x d hd hk i hi hne;have:=h x (a3J hd);unfold b3t at this;rw[hd,hk]at this;simp only at this;cases hq:Go.Ev.tame all mk x d (upto all.length 0)with
  |false=>rw[hq]at this;cases this
  |true=>rw[hq]at this;exact a9C this i (a2A.2 ⟨by omega,by omega⟩) hne
 ·intro i hi hk x d hd hl;exact a7s (a6X hw i (a2A.2 ⟨by omega,by omega⟩) hk) x (a2A.2 ⟨by omega,by have:=a3J hd;omega⟩) d hd hl
 ·intro i o m ho hm hne;have hi:i<all.length:=by rw[a0K]at ho;exact(List.getElem?_eq_some_iff.1 ho).1
  obtain⟨g1,g2,g3⟩:=a4f hg i (a2A.2 ⟨by omega,by omega⟩) o m ho hm hne;exact⟨g1,g2,fun j hj h1 h2 h3=>b2Z g3 j (a2A.2 ⟨by omega,by omega⟩) h1 h2 h3⟩
 ·intro x d hd hk i hi hne hh;have:=h x (a3J hd);unfold b3t at this;rw[hd]at this;simp only[hk]at this;exact a2o this i (a2A.2 ⟨by omega,by omega⟩) hne hh
theorem a5y{P:Program}{all:List Oper}{mk:List Nat}{n:Nat}: ∀(l:List Oper) (late:Nat) (es:List Nat) (s i:Nat) (o:Oper),a0H l i=some o→ ∃late' es',a0H (kinds P all mk n late es s l) i=some (kindOf P all mk n late' es' (s+i) o)
 | [],late,es,s,i,o,h=>by cases i<;>cases h
 |x::l,late,es,s,0,o,h=>by simp only[a0H,Option.some.injEq]at h;subst h;refine⟨late,es, ?_⟩;simp only[kinds];split<;>(rename_i hk;simp[a0H,hk])
 |x::l,late,es,s,i+1,o,h=>by
  simp only[a0H]at h;have e:s+1+i=s+(i+1):=by omega
  simp only[kinds];split
  ·obtain⟨late',es',h'⟩:=a5y l (Nat.lor late (2^s)) es (s+1) i o h;exact⟨late',es',by simp only[a0H];rw[h',e]⟩
  ·obtain⟨late',es',h'⟩:=a5y l late (s::es) (s+1) i o h;exact⟨late',es',by simp only[a0H];rw[h',e]⟩
  ·obtain⟨late',es',h'⟩:=a5y l late es (s+1) i o h;exact⟨late',es',by simp only[a0H];rw[h',e]⟩
theorem c2S{P:Program}{all:List Oper}{mk:List Nat}{n i:Nat}{o:Oper}(ho:a0H all i=some o)(h:a1D (kinds P all mk n 0 [] 0 all) i= .a):cls P o.op=2∨isU o.op=true∨ ∃m,a8x o.op=some m∧o.dst=none∧c3w m all=true:=by
 unfold a1D at h;obtain⟨late',es',hl⟩:=a5y (P:=P) (all:=all) (mk:=mk) (n:=n) all 0 [] 0 i o ho;rw[hl]at h;simp only at h;unfold kindOf at h;split at h
 ·split at h
  ·split at h
   ·split at h
    ·cases h
    ·split at h
     ·rename_i hu;exact .inr (.inl hu)
     ·cases h
   ·cases h
  ·cases h
 ·split at h
  ·split at h
   ·split at h<;>cases h
   ·cases h
  ·cases h
 ·exact .inl (by assumption)
 ·split at h
  ·rename_i m hm hd _;split at h
   ·rename_i hh;exact .inr (.inr ⟨m,hm,hd,hh⟩)
   ·cases h
  ·cases h
theorem c7I{P:Program}{op:Op}(h:isU op=true):cls P op=0:=by cases op<;>simp[isU]at h<;>rfl
theorem b5q{P:Program}{op:Op}(h:cls P op=2):isU op=false:=by
 cases hu:isU op with
 |false=>rfl
 |true=>rw[c7I hu]at h;cases h
theorem b2g{φ:Phi}: ∀(xs ms:List VV) (vs:List Value),c0o xs ms=true→VRs φ xs vs→VRs φ ms vs
 | [],[],vs,_,h=>h
 | [],_::_,vs,h,_=>by simp[c0o]at h
 |x::xs,[],vs,h,_=>by simp[c0o]at h
 |x::xs,m::ms,vs,h,k=>by
  cases m with
  |one=>
   simp only[c0o]at h;cases hx:b2e x with
   |false=>rw[hx]at h;cases h
   |true=>rw[hx]at h;simp only[VRs]at k ⊢;obtain⟨y,ys,rfl,k1,k2⟩:=k;exact⟨y,ys,rfl,by simpa only[VR]using b1d k1 hx,b2g xs ms ys h k2⟩
  |_=>simp[c0o]at h
theorem c0n{φ:Phi}{x m:VV}{v:Value}(h:c4D x m=true)(k:VR φ x v):VR φ m v:=by
 cases m with
 |one=>simp only[VR];exact b1d k (by cases x<;>simpa only[c4D]using h)
 |agg ms=>cases x with
  |agg cs=>simp only[c4D]at h;simp only[VR]at k ⊢;obtain⟨cs',k1,rfl⟩:=k;exact⟨cs',b2g cs ms cs' h k1,rfl⟩
  |_=>simp[c4D]at h
 |_=>cases x<;>simp[c4D]at h
theorem c9z{x:VV}(h:d3s x=true):x= .one:=by cases x<;>simp[d3s]at h<;>rfl
theorem c6i(P:Program)(φ:Phi)(t:TypeId): ∃v,VR φ (a8K P t) v:=by
 have one: ∃v,VR φ .one v:=⟨.nilIface,by simp only[VR];rfl⟩
 have cells: ∀n,VRs φ (ones n) (List.replicate n .nilIface):=by
  intro n
  induction n with
  |zero=>simp[ones,VRs]
  |succ n ih=>simp only[ones,List.replicate_succ,VRs];exact⟨_,_,rfl,by simp only[VR];rfl,ih⟩
 unfold a8K;split
 ·split
  ·exact⟨.agg ⟨List.replicate _ .nilIface⟩,by simp only[VR];exact⟨_,cells _,rfl⟩⟩
  ·exact one
 ·exact one
theorem a9N{P:Program}{t:Nat}{v:VV}: ∀(l:List Oper) (ks:List SK),(t,v)∈a2X P l ks→ ∃x o,a0H l x=some o∧a0H ks x=some .a∧o.dst=some t∧v=a8K P o.type
 | [],ks,h=>by cases ks<;>simp[a2X]at h
 |o::l,[],h=>by simp[a2X]at h
 |o::l,k::ks,h=>by
  have tail:(t,v)∈a2X P l ks→ ∃x o',a0H (o::l) x=some o'∧a0H (k::ks) x=some .a∧o'.dst=some t∧v=a8K P o'.type:=fun h=>
   let ⟨x,o',h1,h2,h3,h4⟩:=a9N l ks h
   ⟨x+1,o',h1,h2,h3,h4⟩
  cases k with
  |a=>
   simp only[a2X]at h;cases hd:o.dst with
   |none=>rw[hd]at h;exact tail h
   |some d=>
    rw[hd]at h;rcases List.mem_cons.1 h with e|h
    ·cases e;exact⟨0,o,rfl,rfl,hd,rfl⟩
    ·exact tail h
  |r=>exact tail (by simpa only[a2X]using h)
  |e=>exact tail (by simpa only[a2X]using h)
theorem a4K{P:Program}{t:Nat}: ∀(l:List Oper) (ks:List SK) (x:Nat) (o:Oper),a0H l x=some o→a0H ks x=some .a→o.dst=some t→(t,a8K P o.type)∈a2X P l ks
 | [],ks,x,o,h,_,_=>by cases x<;>cases h
 |o'::l,[],x,o,_,h,_=>by cases x<;>cases h
 |o'::l,k::ks,0,o,h,h2,h3=>by simp only[a0H,Option.some.injEq]at h h2;subst h h2;simp only[a2X,h3];exact List.mem_cons_self ..
 |o'::l,k::ks,x+1,o,h,h2,h3=>by
  simp only[a0H]at h h2;have:=a4K (P:=P) l ks x o h h2 h3;cases k with
  |a=>
   simp only[a2X];cases o'.dst with
   |none=>exact this
   |some d=>exact List.mem_cons_of_mem _ this
  |r=>simpa only[a2X]using this
  |e=>simpa only[a2X]using this
theorem c2Z{ks:List SK}{i:Nat}(h:a1D ks i= .a):a0H ks i=some .a:=by
 unfold a1D at h;cases hg:a0H ks i with
 |none=>rw[hg]at h;cases h
 |some k=>rw[hg]at h;simp only at h;rw[h]
theorem a6f{t:Nat}: ∀(l:List (Nat×VV)),(∀p∈l,p.1<top)→(∃v,(t,v)∈l∧ ∀a,a1I (a1a l a) t=v)∨((∀v,(t,v)∉l)∧ ∀a,a1I (a1a l a) t=a1I a t)
 | [],_=>.inr ⟨(fun v h=>by cases h),fun a=>rfl⟩
 |(d,u)::l,h=>by
  rcases a6f l (fun p hp=>h p (List.mem_cons_of_mem _ hp))with⟨v,h1,h2⟩|⟨h1,h2⟩
  ·exact .inl ⟨v,List.mem_cons_of_mem _ h1,fun a=>h2 _⟩
  ·by_cases e:t=d
   ·subst e;refine .inl ⟨u,List.mem_cons_self ..,fun a=> ?_⟩;show a1I (a1a l (a.put t u)) t=u;rw[h2];unfold a1I;rw[TT.get_put_same _ _ _ (h _ (List.mem_cons_self ..))]
   ·refine .inr ⟨fun v hv=> ?_,fun a=> ?_⟩
    ·rcases List.mem_cons.1 hv with e'|hv
     ·cases e';exact e rfl
     ·exact h1 v hv
    ·show a1I (a1a l (a.put d u)) t=a1I a t;rw[h2];unfold a1I;rw[TT.get_put_other _ _ _ _ e]
theorem b7i{nt:Nat}: ∀{l:List (Nat×VV)},d7G nt l=true→ ∀p∈l,p.1<nt
 | [],_,p,hp=>by cases hp
 |(d,v)::l,h,p,hp=>by
  simp only[d7G]at h;cases hb:Nat.blt d nt with
  |false=>rw[hb]at h;cases h
  |true=>
   rw[hb]at h;rcases List.mem_cons.1 hp with rfl|hp
   ·exact a0G hb
   ·exact b7i h p hp
theorem b8K{P:Program}{φ:Phi}{a:VT}{act:Act}(ht:TR φ a act.tmps)(o:Oper){v:VV}(h:evU P o.op a=some v): ∃v',(∀w,(execOp act.eval o).run P w= .ok (.value v') w)∧VR φ v v':=by
 obtain⟨dst,op,type,pos,after,guard⟩:=o;simp only at h;cases op with
 |move x=>exact⟨act.eval x,fun w=>rfl,a0B ht h⟩
 |build t parts=>
  obtain⟨parts⟩:=parts;simp only[evU]at h;cases hp:a1Q a parts with
  |none=>rw[hp]at h;cases h
  |some ps=>rw[hp]at h;obtain⟨h1,h2⟩:=a3H ht parts ps hp;obtain⟨v',r1,r2⟩:=a8f (a2k parts ps hp) h1 h2 h;exact⟨v',fun w=>a0T (by simpa using r1 w),r2⟩
 |makeInterface t x=>
  simp only[evU]at h;cases hu:P.underlying t with
  |none=>rw[hu]at h;cases h
  |some d=>cases hx:a0A a x with
   |none=>rw[hu,hx]at h;cases h
   |some u=>
    rw[hu,hx]at h;simp only at h;cases hd:a1l d with
    |false=>rw[hd]at h;cases h
    |true=>rw[hd]at h;simp only[Option.some.injEq]at h;subst h;refine⟨.iface t (act.eval x),fun w=>a0T ?_,by simp only[VR];exact⟨_,a0B ht hx,rfl⟩⟩;cases d<;>simp[a1l]at hd<;>simp[Instr.makeInterface,run_underlying hu]
 |_=>cases h
theorem d4H{P:Program}{op:Op}{a:VT}{H:VH}(h:isU op=true):(evR P op a H).get=evU P op a:=by
 cases op with
 |move x=>simp only[evR,evU];cases a0A a x<;>rfl
 |build t parts=>
  obtain⟨parts⟩:=parts;simp only[evR,evU];cases a1Q a parts with
  |none=>rfl
  |some ps=>simp only;cases b2p P t ps<;>rfl
 |makeInterface t x=>
  simp only[evR,evU];cases P.underlying t with
  |none=>rfl
  |some d=>cases a0A a x with
   |none=>rfl
   |some v=>simp only;cases a1l d<;>rfl
 |_=>simp[isU]at h
theorem a6C{a b:VT}{x:Operand}(h: ∀t,x= .tmp t→a1I a t=a1I b t):a0A a x=a0A b x:=by
 cases x with
 |tmp t=>simp only[a0A,h t rfl]
 |_=>rfl
theorem a2y{a b:VT}: ∀{l:List Operand},(∀x∈l,a0A a x=a0A b x)→a0b a l=a0b b l
 | [],_=>rfl
 |x::l,h=>by simp only[a0b,h x (by simp),a2y (l:=l) fun y hy=>h y (by simp[hy])]
theorem a3I{a b:VT}: ∀{l:List (Nat×Operand)},(∀x∈l.map (·.2),a0A a x=a0A b x)→a1Q a l=a1Q b l
 | [],_=>rfl
 |(i,x)::l,h=>by simp only[a1Q,h x (by simp),a3I (l:=l) fun y hy=>h y (by simp at hy ⊢;exact .inr hy)]
theorem a4l{a b:VT}{o:Option Operand}(h: ∀x∈o.toArray,a0A a x=a0A b x):a8b a o=a8b b o:=by
 cases o with
 |none=>rfl
 |some x=>simp only[a8b,h x (by simp)]
theorem b5i{P:Program}{a b:VT}{H:VH}{c:Call}(h: ∀x∈c.operands,a0A a x=a0A b x):a3A P c a H=a3A P c b H:=by
 obtain⟨callee,⟨args⟩,⟨ts⟩⟩:=c;cases callee with
 |builtin bi=>
  have h': ∀x∈args,a0A a x=a0A b x:=fun x hx=>h x (by simp[Call.operands,hx]);cases bi with
  |len=>cases args with
   |nil=>rfl
   |cons x l=>cases l with
    |nil=>cases ts with
     |nil=>rfl
     |cons t ts=>simp only[a3A,h' x (by simp)]
    |cons y l=>rfl
  |cap=>cases args with
   |nil=>rfl
   |cons x l=>cases l with
    |nil=>cases ts with
     |nil=>rfl
     |cons t ts=>simp only[a3A,h' x (by simp)]
    |cons y l=>rfl
  |min=>cases args with
   |nil=>rfl
   |cons x l=>cases l with
    |nil=>rfl
    |cons y l=>cases l with
     |nil=>simp only[a3A,h' x (by simp),h' y (by simp)]
     |cons z l=>rfl
  |max=>cases args with
   |nil=>rfl
   |cons x l=>cases l with
    |nil=>rfl
    |cons y l=>cases l with
     |nil=>simp only[a3A,h' x (by simp),h' y (by simp)]
     |cons z l=>rfl
  |unsafeSliceData=>cases args with
   |nil=>rfl
   |cons x l=>cases l with
    |nil=>simp only[a3A,h' x (by simp)]
    |cons y l=>rfl
  |_=>rfl
 |_=>rfl
theorem c7V{P:Program}{a b:VT}{H:VH}{op:Op}(h: ∀x∈op.operands,a0A a x=a0A b x):evR P op a H=evR P op b H:=by
 cases op with
 |move x=>simp only[evR,h x (by simp[Op.operands])]
 |assign x=>simp only[evR,h x (by simp[Op.operands])]
 |pick c x y=>simp only[evR,h x (by simp[Op.operands]),h y (by simp[Op.operands]),h c (by simp[Op.operands])]
 |build t parts=>obtain⟨parts⟩:=parts;simp only[evR,a3I (l:=parts) fun x hx=>h x (by simpa[Op.operands]using hx)]
 |load t x=>simp only[evR,h x (by simp[Op.operands])]
 |nilCheck x=>simp only[evR,h x (by simp[Op.operands])]
 |binOp op t x y z=>simp only[evR,h x (by simp[Op.operands]),h y (by simp[Op.operands])]
 |unOp op t x=>simp only[evR,h x (by simp[Op.operands])]
 |convert s d x=>simp only[evR,h x (by simp[Op.operands])]
 |makeInterface t x=>simp only[evR,h x (by simp[Op.operands])]
 |makeFunc fn f c=>obtain⟨f⟩:=f;obtain⟨c⟩:=c;simp only[evR,a2y (l:=f) fun x hx=>h x (by simp[Op.operands,hx]),a2y (l:=c) fun x hx=>h x (by simp[Op.operands,hx])]
 |slice t x lo hi mx=>
  cases mx with
  |some m=>simp only[evR,h x (by simp[Op.operands]),h m (by simp[Op.operands]),a4l (o:=lo) fun x hx=>h x (by simp only[Op.operands,Array.mem_append];exact .inl (.inl (.inr hx))),a4l (o:=hi) fun x hx=>h x (by simp only[Op.operands,Array.mem_append];exact .inl (.inr hx))]
  |none=>simp only[evR,h x (by simp[Op.operands]),a4l (o:=lo) fun x hx=>h x (by simp only[Op.operands,Array.mem_append];exact .inl (.inl (.inr hx))),a4l (o:=hi) fun x hx=>h x (by simp only[Op.operands,Array.mem_append];exact .inl (.inr hx))]
 |fieldAddr t x f=>simp only[evR,h x (by simp[Op.operands])]
 |field t x f=>simp only[evR,h x (by simp[Op.operands])]
 |indexAddr t x i=>simp only[evR,h x (by simp[Op.operands]),h i (by simp[Op.operands])]
 |index t x i=>simp only[evR,h x (by simp[Op.operands]),h i (by simp[Op.operands])]
 |lookup t x k ok=>simp only[evR,h x (by simp[Op.operands]),h k (by simp[Op.operands])]
 |typeAssert x xt t ok=>simp only[evR,h x (by simp[Op.operands])]
 |extract x i=>simp only[evR,h x (by simp[Op.operands])]
 |call c=>simp only[evR];exact b5i fun x hx=>h x (by simpa[Op.operands]using hx)
 |_=>rfl
theorem c7T{P:Program}{a b:VT}{op:Op}(h: ∀x∈op.operands,a0A a x=a0A b x):evU P op a=evU P op b:=by
 cases op with
 |move x=>simp only[evU,h x (by simp[Op.operands])]
 |build t parts=>obtain⟨parts⟩:=parts;simp only[evU,a3I (l:=parts) fun x hx=>h x (by simpa[Op.operands]using hx)]
 |makeInterface t x=>simp only[evU,h x (by simp[Op.operands])]
 |_=>rfl
theorem c0u{P:Program}{a b:VT}{op:Op}(h: ∀x∈op.operands,a0A a x=a0A b x):a3h P op a=a3h P op b:=by
 cases op with
 |box t x=>simp only[a3h,h x (by simp[Op.operands])]
 |buildSlice t n parts=>obtain⟨parts⟩:=parts;simp only[a3h,a3I (l:=parts) fun x hx=>h x (by simpa[Op.operands]using hx)]
 |makeMap t r=>
  cases r with
  |none=>rfl
  |some r=>simp only[a3h,h r (by simp[Op.operands])]
 |makeSlice t l c=>simp only[a3h,h l (by simp[Op.operands]),h c (by simp[Op.operands])]
 |_=>rfl
theorem c4K{P:Program}{H K:VH}(hb:H.base=K.base)(op:BinOp)(t:TypeId)(cx cy:Bool)(x y:VV):c4L P H op t cx cy x y=c4L P K op t cx cy x y:=by unfold c4L b4N d5V;rw[hb]
theorem b1B{P:Program}{H K:VH}(hb:H.base=K.base)(t:TypeId)(x y:VV):a3Z P H t x y=a3Z P K t x y:=by
 have e:a2G P H t x=a2G P K t x:=by
  funext y
  unfold a2G c8v c9k;rw[hb]
 unfold a3Z;rw[e,hb]
theorem b8Q{P:Program}{H K:VH}(hb:H.base=K.base)(t:TypeId)(x y:VV):b2l P H t x y=b2l P K t x y:=by
 have e:a6p P H t x=a6p P K t x:=by
  funext y
  unfold a6p c1c;rw[hb]
 unfold b2l;rw[e,hb]
theorem c4G{H K:VH}(hb:H.base=K.base)(x y:VV):c4H H x y=c4H K x y:=by unfold c4H;rw[hb]
theorem c4I{H K:VH}(hb:H.base=K.base)(x y:VV):c4J H x y=c4J K x y:=by unfold c4J;rw[hb]
theorem d0F{P:Program}{a:VT}{H K:VH}(hb:H.base=K.base){op:Op}(h:cls P op=0):evR P op a H=evR P op a K:=by
 cases op with
 |slice t x lo hi mx=>simp[cls]at h
 |load t x=>simp[cls]at h
 |lookup t x k ok=>simp[cls]at h
 |convert s d x=>simp only[cls]at h;split at h<;>cases h
 |binOp op t x y z=>simp only[evR,c4K hb]
 |indexAddr t x i=>simp only[evR,b1B hb]
 |index t x i=>simp only[evR,b8Q hb]
 |unOp op t x=>simp only[evR,d9f,hb]
 |call c=>
  obtain⟨callee,args,ts⟩:=c;cases callee with
  |builtin bi=>
   obtain⟨args⟩:=args;cases bi with
   |min=>rcases args with _|⟨x,_|⟨y,_|⟨z,l⟩⟩⟩<;>simp only[evR,a3A,c4G hb]
   |max=>rcases args with _|⟨x,_|⟨y,_|⟨z,l⟩⟩⟩<;>simp only[evR,a3A,c4I hb]
   |unsafeSliceData=>rcases args with _|⟨x,_|⟨y,l⟩⟩<;>rfl
   |_=>first|rfl|(simp[cls]at h;done)
  |_=>rfl
 |_=>rfl
theorem a6h{t:Nat}: ∀{l:List Operand},Operand.tmp t∈l→t∈a4B l
 | [],h=>by cases h
 |x::l,h=>by
  rcases List.mem_cons.1 h with rfl|h
  ·simp[a4B]
  ·have:=a6h h;cases x<;>simp[a4B,this]
theorem a6k{all:List Oper}{o:Oper}{t:Nat}(h:t∈a4B o.op.operands.toList):t∈looks all o:=by
 unfold looks;split
 ·split
  ·split
   ·simp[h]
   ·exact h
  ·exact h
 ·exact h
theorem a7W{all:List Oper}{o og:Oper}{g:Nat}{w:Bool}{d:Nat}(hg:o.guard=some (g,w))(ho:a0H all g=some og)(hd:og.dst=some d):d∈looks all o:=by
 unfold looks;rw[hg];simp only[ho,hd]
 simp
def SameV(all:List Oper)(o:Oper)(a b:VT):Prop:= ∀t∈looks all o,a1I a t=a1I b t
def Same(all:List Oper)(o:Oper)(act act':Act):Prop:= ∀t∈looks all o,act.tmps.getD t undef=act'.tmps.getD t undef
theorem SameV.evR{P:Program}{all:List Oper}{o:Oper}{a b:VT}{H:VH}(h:SameV all o a b):Go.Ev.evR P o.op a H=Go.Ev.evR P o.op b H:=
 c7V fun x hx=>a6C fun t ht=>h t (a6k (a6h (by subst ht;simpa using hx)))
theorem SameV.wanted{all:List Oper}{o:Oper}{a b:VT}(h:SameV all o a b):a1q all a o.guard=a1q all b o.guard:=by
 cases hg:o.guard with
 |none=>rfl
 |some gw=>
  obtain⟨g,w⟩:=gw;simp only[a1q];cases ho:a0H all g with
  |none=>rfl
  |some og=>
   simp only;cases hd:og.dst with
   |none=>rfl
   |some d=>simp only[h d (a7W hg ho hd)]
theorem SameV.gOk{all:List Oper}{o:Oper}{a b:VT}(h:SameV all o a b):Go.Ev.gOk all a o.guard=Go.Ev.gOk all b o.guard:=by
 cases hg:o.guard with
 |none=>rfl
 |some gw=>
  obtain⟨g,w⟩:=gw;simp only[Go.Ev.gOk];cases ho:a0H all g with
  |none=>rfl
  |some og=>
   simp only;cases hd:og.dst with
   |none=>rfl
   |some d=>simp only[h d (a7W hg ho hd)]
theorem SameV.operands{all:List Oper}{o:Oper}{a b:VT}(h:SameV all o a b): ∀x∈o.op.operands,a0A a x=a0A b x:=
 fun x hx=>a6C fun t ht=>h t (a6k (a6h (by subst ht;simpa using hx)))
theorem Same.eval{all:List Oper}{o:Oper}{act act':Act}(h:Same all o act act'): ∀x∈o.op.operands,act.eval x=act'.eval x:=by
 intro x hx;cases x with
 |tmp t=>exact h t (a6k (a6h (by simpa using hx)))
 |_=>rfl
theorem Same.exec{all:List Oper}{o:Oper}{act act':Act}(h:Same all o act act')(hs: ∀cs b,o.op≠ .select cs b):execOp act.eval o=execOp act'.eval o:=
 execOp_congr o hs h.eval
theorem a4U(ops:List Oper)(tmps:Array Value)(o:Oper):Region.wanted o (yielded ⟨ops⟩ tmps)=match o.guard with
  |none=>true
  |some (j,want)=>match a0H ops j with
   |some oj=>match oj.dst with
    |some d=>match tmps.getD d undef with
     |.bool b=>match b with|true=>want|false=> !want
     |_=>false
    |none=>false
   |none=>false:=by
 unfold Region.wanted;cases hg:o.guard with
 |none=>rfl
 |some jw=>
  obtain⟨j,want⟩:=jw;simp only[yielded];rw[a0K];have e0:(⟨ops⟩:Array Oper)[j]? =ops[j]? :=by simp
  rw[e0];cases hj:ops[j]? with
  |none=>rfl
  |some oj=>
   simp only[Option.bind_some];cases hd:oj.dst with
   |none=>rfl
   |some d=>
    simp only[Option.bind_some];have hget:tmps.getD d undef=(tmps[d]?).getD undef:=by simp[Array.getD_eq_getD_getElem?]
    rw[hget];cases hv:tmps[d]? with
    |none=>rfl
    |some v=>
     simp only[Option.getD_some];cases v with
     |bool b=>cases b<;>cases want<;>rfl
     |_=>rfl
theorem Same.wanted{all:List Oper}{o:Oper}{act act':Act}(h:Same all o act act'):Region.wanted o (yielded ⟨all⟩ act.tmps)=Region.wanted o (yielded ⟨all⟩ act'.tmps):=by
 rw[a4U,a4U];cases hg:o.guard with
 |none=>rfl
 |some gw=>
  obtain⟨g,w⟩:=gw;simp only;cases ho:a0H all g with
  |none=>rfl
  |some og=>
   simp only;cases hd:og.dst with
   |none=>rfl
   |some d=>simp only[h d (a7W hg ho hd)]
theorem b8M{P:Program}{op:Op}{a:VT}{H:VH}{v:VV}(h:(evR P op a H).get=some v):(∀cs b,op≠ .select cs b)∧ ∀c,op≠ .defer c:=by
 constructor
 ·rintro cs b rfl;simp[evR,RO.get]at h
 ·rintro c rfl;simp[evR,RO.get]at h
theorem a7G{P:Program}{fe:FE}{op:Op}{a:VT}{H:VH}{v:VV}{H₁:VH}(h:a3g P fe op a H=some (v,H₁)): ∀cs b,op≠ .select cs b:=by rintro c b rfl;simp[a3g,cls,evE,Out.get]at h
theorem c3n[Ext]{P:Program}(hng:a6U P){fe:FE}(hfe:FEok P fe){w0:World}{φ:Phi}{w:World}{a:VT}{act actg:Act}{H:VH}(ht:TR φ a actg.tmps)(hs:HSim w0 φ H w){all:List Oper}{o:Oper}(hsm:Same all o act actg){v:VV}{H₁:VH}(h:a3g P fe o.op a H=some (v,H₁))
  (r:Option Nat) (K:Act→World→Prop) (Q:Exit→Act→World→Prop)
  (hK: ∀v' w₁ φ₁,St φ w φ₁ w₁→VR φ₁ v v'→HSim w0 φ₁ H₁ w₁→H₁.base=H.base→K (act.put o.dst v') w₁):o.wpIn (Fr r) 0 P act w K Q:=by
 have hd:=a4Z h;refine⟨fun _ _=>trivial, ?_⟩;rw[show(Fr r).round=r from rfl,Oper.semAt_eq _ _ _ hd,hsm.exec (a7G h)]
 have read: ∀{u:VV},(evR P o.op a H).get=some u→some (u,H)=some (v,H₁)→o.uponIn (Fr r) 0 P act K Q ((execOp actg.eval o).run P w):=by intro u hu he;simp only[Option.some.injEq,Prod.mk.injEq]at he;obtain⟨rfl,rfl⟩:=he;obtain⟨v',h1,h2⟩:=a7n hu (a8a ht hs o);rw[h1];exact hK v' w φ (.refl φ w) h2 hs rfl
 have write:(match(evE P o.op a H).get with
   |.val v H₁=>some (v,H₁)|.enter f args=>fe.call f args H|.round i args=>fe.round i args H
   |.bad=>none)=some (v,H₁)→o.uponIn (Fr r) 0 P act K Q ((execOp actg.eval o).run P w):=by
  intro he;have hg:=a9j (b2o hng ht hs o);cases hq:(evE P o.op a H).get with
  |val u K'=>
   rw[hq]at he hg;simp only[Option.some.injEq,Prod.mk.injEq]at he;obtain⟨rfl,rfl⟩:=he;simp only at hg;rcases hg with⟨v',w₁,φ₁,h1,h2,h3,h4,h5⟩|⟨rfl,w₁,φ₁,h1,h2,h3,h4⟩
   ·rw[h1];exact hK v' w₁ φ₁ h2 h3 h4 h5
   ·rw[h1];exact hK undef w₁ φ₁ h2 (a2R φ₁) h3 h4
  |enter f args=>rw[hq]at he hg;simp only at he hg;obtain⟨args',h1,h2⟩:=hg;rw[h1];refine⟨(fun hx=>by cases hx), ?_⟩;refine a6r.2 ((hfe.call w0 f args H v H₁ he φ w args' h2 hs).mono ?_);rintro e w' ⟨u,v',φ',H',rfl,k1,k2,k3,k4,rfl,rfl⟩;exact hK v' w' φ' k1 k2 k3 k4
  |round i args=>rw[hq]at he hg;simp only at he hg;obtain⟨inf,L,args',h1,h2,h3,h4,h5⟩:=hg;rw[h5];refine⟨(fun hx=>by cases hx), ?_⟩;refine(hfe.round w0 i args H v H₁ he φ w args' inf L r h4 hs h1 h2).mono ?_;rintro e w' ⟨v',φ',rfl,k1,k2,k3,k4⟩;exact hK v' w' φ' k1 k2 k3 k4
  |bad=>rw[hq]at he;cases he
 unfold a3g at h;split at h
 ·cases hg:(evR P o.op a H).get with
  |none=>rw[hg]at h;cases h
  |some u=>rw[hg]at h;exact read hg h
 ·cases hg:(evR P o.op a H).get with
  |none=>rw[hg]at h;cases h
  |some u=>rw[hg]at h;exact read hg h
 ·exact write h
theorem b9p{a b:VA}(h:d6D a b=true):a=b:=by
 obtain⟨ab,ao⟩:=a;obtain⟨bb,bo⟩:=b;unfold d6D at h;cases ab with
 |base r=>cases bb with
  |base s=>
   simp only at h;cases hr:Nat.beq r s with
   |false=>rw[hr]at h;cases h
   |true=>rw[hr]at h;rw[Nat.eq_of_beq_eq_true hr,Nat.eq_of_beq_eq_true h]
  |loc s=>cases h
  |sym s=>cases h
 |sym r=>cases bb with
  |base s=>cases h
  |loc s=>cases h
  |sym s=>
   simp only at h;cases hr:Nat.beq r s with
   |false=>rw[hr]at h;cases h
   |true=>rw[hr]at h;rw[Nat.eq_of_beq_eq_true hr,Nat.eq_of_beq_eq_true h]
 |loc r=>cases bb with
  |base s=>cases h
  |sym s=>cases h
  |loc s=>
   simp only at h;cases hr:Nat.beq r s with
   |false=>rw[hr]at h;cases h
   |true=>rw[hr]at h;rw[Nat.eq_of_beq_eq_true hr,Nat.eq_of_beq_eq_true h]
theorem c4g{a b:Bool}(h:(match a with|true=>b|false=>false)=true):a=true∧b=true:=by
 cases a with
 |true=>exact⟨rfl,h⟩
 |false=>cases h
mutual
theorem a0f: ∀(x y:VV),a1E x y=true→x=y
 |.bool a,y,h=>by
  cases y with
  |bool b=>cases a<;>cases b<;>first|rfl|(simp[a1E]at h;done)
  |_=>simp[a1E]at h
 |.int k a,y,h=>by
  cases y with
  |int k' b=>simp only[a1E]at h;obtain⟨h1,h2⟩:=c4g h;rw[of_decide_eq_true h2,of_decide_eq_true (show decide (k=k')=true from h1)]
  |_=>simp[a1E]at h
 |.string a,y,h=>by
  cases y with
  |string b=>
   simp only[a1E]at h;unfold b3K at h;rw[a9g]at h;have h1:a.data.toList=b.data.toList:=by simpa using h
   have h2:a.data=b.data:=Array.toList_inj.1 h1;obtain⟨a⟩:=a;obtain⟨b⟩:=b;simp only at h2;rw[h2]
  |_=>simp[a1E]at h
 |.ptr none,y,h=>by
  cases y with
  |ptr p=>cases p with
   |none=>rfl
   |some q=>simp[a1E]at h
  |_=>simp[a1E]at h
 |.ptr (some a),y,h=>by
  cases y with
  |ptr p=>cases p with
   |none=>simp[a1E]at h
   |some q=>simp only[a1E]at h;rw[b9p h]
  |_=>simp[a1E]at h
 |.slice none l c,y,h=>by
  cases y with
  |slice p l' c'=>cases p with
   |none=>simp only[a1E]at h;obtain⟨h1,h2⟩:=c4g h;rw[Nat.eq_of_beq_eq_true h1,Nat.eq_of_beq_eq_true h2]
   |some q=>simp[a1E]at h
  |_=>simp[a1E]at h
 |.slice (some a) l c,y,h=>by
  cases y with
  |slice p l' c'=>cases p with
   |none=>simp[a1E]at h
   |some q=>simp only[a1E]at h;obtain⟨h0,h⟩:=c4g h;obtain⟨h1,h2⟩:=c4g h;rw[b9p h0,Nat.eq_of_beq_eq_true h1,Nat.eq_of_beq_eq_true h2]
  |_=>simp[a1E]at h
 |.sliceE,y,h=>by cases y<;>simp[a1E]at h
 |.odd _,y,h=>by cases y<;>simp[a1E]at h
 |.any,y,h=>by cases y<;>simp[a1E]at h
 |.one,y,h=>by cases y<;>simp[a1E]at h
 |.sint k i,y,h=>by
  cases y with
  |sint k' j=>simp only[a1E]at h;obtain⟨h1,h2⟩:=c4g h;rw[Nat.eq_of_beq_eq_true h2,of_decide_eq_true (show decide (k=k')=true from h1)]
  |_=>simp[a1E]at h
 |.sym i,y,h=>by
  cases y with
  |sym j=>simp only[a1E]at h;rw[Nat.eq_of_beq_eq_true h]
  |_=>simp[a1E]at h
 |.map none,y,h=>by
  cases y with
  |map p=>cases p with
   |none=>rfl
   |some q=>simp[a1E]at h
  |_=>simp[a1E]at h
 |.map (some a),y,h=>by
  cases y with
  |map p=>cases p with
   |none=>simp[a1E]at h
   |some q=>simp only[a1E]at h;have:=b9p h;simp only[VA.mk.injEq,and_true]at this;rw[this]
  |_=>simp[a1E]at h
 |.func f a b,y,h=>by
  cases y with
  |func g c d=>cases f with
   |func f=>cases g with
    |func g=>simp only[a1E]at h;obtain⟨h0,h⟩:=c4g h;obtain⟨h1,h2⟩:=c4g h;rw[Nat.eq_of_beq_eq_true h0,vvsEq_eq a c h1,vvsEq_eq b d h2]
    |_=>simp[a1E]at h
   |_=>simp[a1E]at h
  |_=>simp[a1E]at h
 |.yield i,y,h=>by cases y<;>simp[a1E]at h
 |.nilFunc,y,h=>by
  cases y with
  |nilFunc=>rfl
  |_=>simp[a1E]at h
 |.iface t x,y,h=>by
  cases y with
  |iface u z=>simp only[a1E]at h;obtain⟨h0,h1⟩:=c4g h;rw[Nat.eq_of_beq_eq_true h0,a0f x z h1]
  |_=>simp[a1E]at h
 |.nilIface,y,h=>by
  cases y with
  |nilIface=>rfl
  |_=>simp[a1E]at h
 |.agg a,y,h=>by
  cases y with
  |agg b=>simp only[a1E]at h;rw[vvsEq_eq a b h]
  |_=>simp[a1E]at h
 |.tuple a,y,h=>by
  cases y with
  |tuple b=>simp only[a1E]at h;rw[vvsEq_eq a b h]
  |_=>simp[a1E]at h
 |.lsl a n k,y,h=>by
  cases y with
  |lsl b n' k'=>simp only[a1E]at h;obtain⟨h0,h⟩:=c4g h;obtain⟨h1,h2⟩:=c4g h;rw[Nat.eq_of_beq_eq_true h0,Nat.eq_of_beq_eq_true h1,Nat.eq_of_beq_eq_true h2]
  |_=>simp[a1E]at h
 |.cat a,y,h=>by
  cases y with
  |cat b=>simp only[a1E]at h;rw[vvsEq_eq a b h]
  |_=>simp[a1E]at h
 |.tsl a p,y,h=>by
  cases y with
  |tsl b q=>simp only[a1E]at h;obtain⟨h0,h1⟩:=c4g h;rw[Nat.eq_of_beq_eq_true h0,vvsEq_eq p q h1]
  |_=>simp[a1E]at h
 |.tlen a,y,h=>by
  cases y with
  |tlen b=>simp only[a1E]at h;rw[vvsEq_eq a b h]
  |_=>simp[a1E]at h
theorem vvsEq_eq: ∀(x y:List VV),vvsEq x y=true→x=y
 | [],y,h=>by
  cases y with
  |nil=>rfl
  |cons u l=>simp[vvsEq]at h
 |x::a,y,h=>by
  cases y with
  |nil=>simp[vvsEq]at h
  |cons u l=>simp only[vvsEq]at h;obtain⟨h0,h1⟩:=c4g h;rw[a0f x u h0,vvsEq_eq a l h1]
end
theorem c3g{P:Program}{a:VT}{H:VH}{o:Oper}(h:still P a H o=true): ∃v,(evR P o.op a H).get=some v∧ ∀d,o.dst=some d→a1I a d=v:=by
 unfold still at h;cases hg:(evR P o.op a H).get with
 |none=>rw[hg]at h;cases h
 |some v=>rw[hg]at h;refine⟨v,rfl,fun d hd=> ?_⟩;rw[hd]at h;exact(a0f _ _ h).symm
theorem a4X{P:Program}{all:List Oper}{mk:List Nat}{e:Nat}{a:VT}{H:VH}: ∀{l:List Nat},a4E P all mk e a H l=true→ ∀p∈l,rch mk p e=false→ ∀o,a0H all p=some o→still P a H o=true
 | [],_,p,hp,_,_,_=>by cases hp
 |x::l,h,p,hp,hr,o,ho=>by
  simp only[a4E]at h;obtain⟨h1,h2⟩:=c4g h;rcases List.mem_cons.1 hp with rfl|hp
  ·rw[hr,ho]at h1;exact h1
  ·exact a4X h2 p hp hr o ho
theorem a8Q{mk:List Nat}{e:Nat}: ∀{l:List Nat} {p:Nat},p∈l→rch mk p e=false→p∈a5z mk e l
 | [],_,hp,_=>by cases hp
 |x::l,p,hp,hr=>by
  simp only[a5z];rcases List.mem_cons.1 hp with rfl|hp
  ·rw[hr];simp
  ·have:=a8Q (l:=l) hp hr;cases rch mk x e with
   |true=>exact this
   |false=>simp[this]
theorem b3r{nt:Nat}{a a₁:VT}{d:Option Nat}{v:VV}(h:a5T nt a d v=some a₁):(d=none∧a₁=a)∨ ∃t,d=some t∧t<nt∧a₁=a.put t v:=by
 cases d with
 |none=>simp only[a5T,Option.some.injEq]at h;exact .inl ⟨rfl,h.symm⟩
 |some t=>
  simp only[a5T]at h;cases hb:Nat.blt t nt with
  |false=>rw[hb]at h;cases h
  |true=>rw[hb]at h;simp only[Option.some.injEq]at h;exact .inr ⟨t,rfl,a0G hb,h.symm⟩
theorem a3R{nt:Nat}(hb:nt≤top){a a₁:VT}{d:Option Nat}{v:VV}(h:a5T nt a d v=some a₁)(t:Nat):a1I a₁ t=if d=some t then v else a1I a t:=by
 rcases b3r h with⟨rfl,rfl⟩|⟨u,rfl,hu,rfl⟩
 ·simp
 ·by_cases e:t=u
  ·subst e;simp[a1I,TT.get_put_same a t v (by omega)]
  ·rw[if_neg (by simp;exact fun h=>e h.symm)];simp[a1I,TT.get_put_other a u t v e]
theorem a0Y(act:Act)(d:Option Nat)(v:Value)(t:Nat):(act.put d v).tmps.getD t undef=if d=some t∧t<act.tmps.size then v else act.tmps.getD t undef:=by
 cases d with
 |none=>simp[Act.put]
 |some u=>
  simp only[Act.put,Array.getD_eq_getD_getElem?,Array.getElem?_setIfInBounds,Option.some.injEq]
  by_cases e:u=t
  ·subst e
   by_cases hs:u<act.tmps.size
   ·simp[hs]
   ·simp[hs]
  ·rw[if_neg e,if_neg (by simp[e])]
theorem b1Q(act:Act)(d:Option Nat)(v:Value):(act.put d v).tmps.size=act.tmps.size:=by cases d<;>simp[Act.put]
theorem b4n(act:Act)(d:Option Nat)(v:Value):(act.put d v).defers=act.defers:=by cases d<;>rfl
def Lb(L:Array Bool)(i:Nat):Bool:=L.getD i false
theorem c3P{L:Array Bool}{i:Nat}(h:i<L.size)(j:Nat):Lb (L.setIfInBounds i true) j=if j=i then true else Lb L j:=by
 unfold Lb
 by_cases e:j=i
 ·subst e;simp[h]
 ·rw[if_neg e,getD_set_ne false (Ne.symm e)]
theorem HSim.adopt[Ext]{w0:World}{φ:Phi}{H:VH}{w:World}(h:HSim w0 φ H w)(hn:H.next<top){b:Nat}{o:VO}{o':Obj}(hw:w.heap[b]? =some o')(hun: ∀j inf,φ j=some inf→inf.blk≠b)(hb:H.base.blk b=none)(h0:w0.heap.size≤b)
  (ho:OR φ ⟨b,0,0⟩ o o'):HSim w0 (φ.ext H.next ⟨b,0,0⟩) (H.alloc o) w:=by
 have hf:=h.fresh H.next (Nat.le_refl _);have hle:=Phi.le_ext (φ:=φ) ⟨b,0,0⟩ hf;have hgo: ∀j x,(H.locs.put H.next o).get j=some x→j≠H.next→H.locs.get j=some x:=fun j x hx e=>by rwa [TT.get_put_other _ _ _ _ e]at hx
 have old: ∀k y,k≠H.next→φ.ext H.next ⟨b,0,0⟩ k=some y→φ k=some y:=fun k y hk e=>by simpa[Phi.ext,hk]using e
 refine⟨h.env.mono hle,h.base,h.old, ?_,hn, ?_, ?_, ?_, ?_⟩
 ·intro i inf hi
  by_cases e:i=H.next
  ·subst e;rw[Phi.ext_self]at hi;cases hi;exact .inl h0
  ·exact h.own i inf (old i inf e hi)
 ·intro i x hx
  by_cases e:i=H.next
  ·subst e;rw[show(H.alloc o).locs=H.locs.put H.next o from rfl,TT.get_put_same _ _ _ hn]at hx;cases hx;exact⟨_,o',Phi.ext_self _ _ _,hw,ho.mono hle,hb⟩
  ·obtain⟨inf,x',h1,h2,h3,h4⟩:=h.live i x (hgo i x hx e);exact⟨inf,x',hle.1 i inf h1,h2,h3.mono hle,h4⟩
 ·intro i j oi oj inf jnf hi hj hfi hfj hbb
  by_cases ei:i=H.next
  ·by_cases ej:j=H.next
   ·rw[ei,ej]
   ·have hj':=old j _ ej hfj;subst ei;rw[Phi.ext_self]at hfi;cases hfi;exact absurd hbb.symm (hun j jnf hj')
  ·have hi':=old i _ ei hfi
   by_cases ej:j=H.next
   ·subst ej;rw[Phi.ext_self]at hfj;cases hfj;exact absurd hbb (hun i inf hi')
   ·exact h.inj i j oi oj inf jnf (hgo i _ hi ei) (hgo j _ hj ej) hi' (old j _ ej hfj) hbb
 ·intro i hi;have hi':H.next+1≤i:=hi;show(if _ then _ else _)=none;rw[if_neg (by omega)];exact h.fresh i (by omega)
 ·intro i inf hi
  by_cases e:i=H.next
  ·subst e;rw[Phi.ext_self]at hi;cases hi;exact(Array.getElem?_eq_some_iff.1 hw).1
  ·exact h.bound i inf (old i inf e hi)
theorem St.adopt{φ0:Phi}{ws:World}{φ:Phi}{w:World}(h:St φ0 ws φ w){n b:Nat}(hn:φ n=none)(hb:ws.heap.size≤b):St φ0 ws (φ.ext n ⟨b,0,0⟩) w:=by
 refine⟨Phi.le_trans h.le (Phi.le_ext _ hn),h.wk,h.frame,fun i inf hi=> ?_⟩;simp only[Phi.ext]at hi;split at hi
 ·cases hi;exact .inr hb
 ·exact h.own i inf hi
structure Ctx where
 P:Program
 fe:FE
 nt:Nat
 all:List Oper
 ks:List SK
 ms:List Nat
 w0:World
 ws:World
 φ0:Phi
 H0:VH
 sz:Nat
 ld:List (Nat×VV)
 ds:List Deferred
 res:VT×VH
structure Ctx.Ok[Ext](C:Ctx):Prop where
 ng:a6U C.P
 fe:FEok C.P C.fe
 nt:C.nt≤top
 sz:C.nt≤C.sz
 ms:C.ms=a6w C.all []
 ks:C.ks=kinds C.P C.all C.ms C.all.length 0 [] 0 C.all
 ld:C.ld=a2X C.P C.all C.ks
 ldt: ∀p∈C.ld,p.1<C.nt
 pairs:Pairs C.all C.ks C.ms
def Told(C:Ctx)(a:VT)(H:VH)(pd:List Nat)(i:Nat)(o:Oper):Prop:=
 gOk C.all a o.guard=true∧((a1q C.all a o.guard=false∧ ∀d,o.dst=some d→a1I a d=a3P)∨
  (a1q C.all a o.guard=true∧ ∃v,(evR C.P o.op a H).get=some v∧(∀d,o.dst=some d→a1I a d=v)∧(cls C.P o.op=0∨i∈pd)))
def d8l(C:Ctx)(φ:Phi)(H:VH)(act:Act)(w:World)(b:Nat)(o:Oper)(ρe:Operand→Value):Prop:=
 ∃(k:NK) (obj:Obj),(∀w',(execOp ρe o).run C.P w'= .ok (.value (k.real w'.heap.size)) (w'.alloc obj))∧w.heap[b]? =some obj∧(∀d,o.dst=some d→act.tmps.getD d undef=k.real b)∧C.ws.heap.size≤b∧C.w0.heap.size≤b∧H.base.blk b=none∧(∀j inf,φ j=some inf→inf.blk≠b)
def d8k(C:Ctx)(act:Act)(o:Oper)(ρe:Operand→Value):Prop:=
 ∃v',(∀w',(execOp ρe o).run C.P w'= .ok (.value v') w')∧(∀d,o.dst=some d→act.tmps.getD d undef=v')
def d6V(C:Ctx)(o:Oper):Prop:=(∃m,a8x o.op=some m)∨a6x C.all o≠[]
def Early(C:Ctx)(φ:Phi)(H:VH)(act:Act)(w:World)(b:Nat)(o:Oper):Prop:=
 d6V C o∨ ∃ρe,(∀x∈o.op.operands,ρe x=act.eval x)∧((cls C.P o.op=2∧d8l C φ H act w b o ρe)∨(isU o.op=true∧d8k C act o ρe))
def Ents(C:Ctx)(act:Act):List Nat→List MapEntry→Prop
 | [],es=>es= []|x::l,es=> ∃o t m k v e es',a0H C.all x=some o∧o.op= .insert t (.tmp m) k v∧es=e::es'∧e.key=act.eval k∧e.val=act.eval v∧Ents C act l es'
def MapSt(C:Ctx)(φ:Phi)(H:VH)(L:Array Bool)(act:Act)(w:World)(b m:Nat):Prop:=
 ∃(l:List Nat) (es:List MapEntry) (c:Nat),w.heap[b]? =some (.map ⟨es⟩ c)∧l.Nodup∧(∀x,x∈l↔(x∈a0o C.all m∧Lb L x=true))∧Ents C act l es∧act.tmps.getD m undef= .map (some b)∧
  C.ws.heap.size≤b∧C.w0.heap.size≤b∧H.base.blk b=none∧(∀j inf,φ j=some inf→inf.blk≠b)
def Pend(C:Ctx)(rest:List Nat)(L:Array Bool)(i:Nat):Prop:=
 Lb L i=true∧ ∃o,a0H C.all i=some o∧((cls C.P o.op=2∧a6x C.all o= []∧i∈rest)∨ ∃m,mkM o=some m∧ ∃z∈a0o C.all m,z∈rest)
structure Inv[Ext](C:Ctx)(done rest:List Nat)(a:VT)(H:VH)(pd:List Nat)(L:Array Bool)(act actg:Act)(w:World)(φ:Phi)(bl:Nat→Nat):Prop where
 run:a8o C.P C.fe C.nt C.all C.ks C.ms C.H0.base C.ld rest a H pd=some C.res
 ord:a9J C.all C.ks C.ms done rest=true
 cov: ∀i,i<C.all.length→i∈done∨i∈rest
 dlt: ∀i∈done,∃o,a0H C.all i=some o
 closed: ∀j o,j∈done→a0H C.all j=some o→ ∀e∈o.after.toList,a1h e=true→e.on∈done
 Lsz:L.size=C.all.length
 Lcl: ∀j o,Lb L j=true→a0H C.all j=some o→ ∀e∈o.after.toList,a1h e=true→Lb L e.on=true
 early: ∀i∈rest,Lb L i=true→a1D C.ks i= .a
 late: ∀i∈done,Lb L i=false→a1D C.ks i= .r
 tr:TR φ a actg.tmps
 sz1:act.tmps.size=C.sz
 sz2:actg.tmps.size=C.sz
 defs:act.defers=C.ds
 agree: ∀t,(∀i,a1H C.all i=some t→(i∈done→Lb L i=true)∧(i∈rest→Lb L i=false))→act.tmps.getD t undef=actg.tmps.getD t undef
 reads: ∀i o,i∈done→Lb L i=false→a0H C.all i=some o→Told C a H pd i o
 allocs: ∀i o,i∈rest→Lb L i=true→a0H C.all i=some o→Early C φ H act w (bl i) o
 maps: ∀i o m,a0H C.all i=some o→mkM o=some m→Lb L i=true→(∃z∈a0o C.all m,z∈rest)→MapSt C φ H L act w (bl i) m
 dist: ∀i j,Pend C rest L i→Pend C rest L j→bl i=bl j→i=j
 lval: ∀i o,a1D C.ks i= .a→Lb L i=true→a0H C.all i=some o→ ∀d,o.dst=some d→VR φ (a8K C.P o.type) (act.tmps.getD d undef)
 sim:HSim C.w0 φ H w
 st:St C.φ0 C.ws φ w
 base:H.base=C.H0.base
theorem a0E{all:List Oper}{i:Nat}{o:Oper}(h:a0H all i=some o):a1H all i=o.dst:=by simp[a1H,h]
theorem a0Q{all:List Oper}{i:Nat}{o:Oper}(h:a0H all i=some o):a0u all i=looks all o:=by simp[a0u,h]
theorem a0M{all:List Oper}{i:Nat}{o:Oper}(h:a0H all i=some o):i<all.length:=by rw[a0K]at h;exact(List.getElem?_eq_some_iff.1 h).1
section
variable{C:Ctx}{done rest:List Nat}{a:VT}{H:VH}{pd:List Nat}{L:Array Bool}{act actg:Act}{w:World}{φ:Phi}{bl:Nat→Nat}
theorem Inv.predD[Ext](ok:C.Ok)(I:Inv C done rest a H pd L act actg w φ bl){j x:Nat}(hr:rch C.ms x j=true)(he: ∀o,a0H C.all j=some o→ ∀e∈o.after.toList,a1h e=true→e.on∈done):x∈done:=by rw[ok.ms]at hr;exact b3p (L:=fun i=>i∈done) (fun j o hj ho=>I.closed j o hj ho) j x hr he
theorem Inv.predL[Ext](ok:C.Ok)(I:Inv C done rest a H pd L act actg w φ bl){j x:Nat}(hr:rch C.ms x j=true)(he: ∀o,a0H C.all j=some o→ ∀e∈o.after.toList,a1h e=true→Lb L e.on=true):Lb L x=true:=by rw[ok.ms]at hr;exact b3p (L:=fun i=>Lb L i=true) (fun j o hj ho=>I.Lcl j o hj ho) j x hr he
theorem Inv.apart[Ext](I:Inv C done rest a H pd L act actg w φ bl){x:Nat}(h:x∈rest):x∉done:=(a4H I.ord x h).1
theorem Inv.nohit[Ext](ok:C.Ok)(I:Inv C done rest a H pd L act actg w φ bl){x k d:Nat}(hx:x∉done)(hk:k∈done)(hd:a1H C.all x=some d)(hq:a1D C.ks x≠ .e∨rch C.ms k x=false):d∉a0u C.all k∧a1H C.all k≠some d:=by
 have hne:k≠x:=fun e=>hx (e▸hk);obtain⟨ok',hok⟩:=I.dlt k hk
 have key:b9f C.all d k=true→False:=by
  intro hh
  have:rch C.ms x k=true:=by
   by_cases hkx:a1D C.ks x= .e
   ·rcases ok.pairs.eff x d hd hkx k (a0M hok) hne hh with h|h
    ·exact h
    ·rcases hq with hq|hq
     ·exact absurd hkx hq
     ·rw[h]at hq;cases hq
   ·exact ok.pairs.tame x d hd hkx k (a0M hok) hne hh
  exact hx (I.predD ok this fun o ho=>I.closed k o hk ho)
 exact⟨fun h=>key (a6n.2 (.inl h)),fun h=>key (a6n.2 (.inr h))⟩
theorem Inv.same[Ext](ok:C.Ok)(I:Inv C done rest a H pd L act actg w φ bl){j:Nat}{o:Oper}(ho:a0H C.all j=some o)(hL:Lb L j=false)
  (hd: ∀e∈o.after.toList,a1h e=true→e.on∈done) (hr: ∀e∈o.after.toList,a1h e=true→Lb L e.on=true):Same C.all o act actg:=by
 have hd': ∀o',a0H C.all j=some o'→ ∀e∈o'.after.toList,a1h e=true→e.on∈done:=fun o' ho'=>by rw[ho]at ho';cases ho';exact hd
 have hr': ∀o',a0H C.all j=some o'→ ∀e∈o'.after.toList,a1h e=true→Lb L e.on=true:=fun o' ho'=>by rw[ho]at ho';cases ho';exact hr
 intro t ht;have ht':t∈a0u C.all j:=by rw[a0Q ho];exact ht
 refine I.agree t fun x hx=> ?_
 by_cases e:x=j
 ·subst e;refine⟨fun hxd=> ?_,fun _=>hL⟩;have:=I.late x hxd hL;exact absurd ht' (ok.pairs.self x t (a3J hx) hx (by rw[this];simp))
 ·refine⟨fun hxd=> ?_,fun hxr=> ?_⟩
  ·cases hq:Lb L x with
   |true=>rfl
   |false=>have:=I.late x hxd hq;have:=ok.pairs.tame x t hx (by rw[this];simp) j (a0M ho) (Ne.symm e) (a6n.2 (.inl ht'));rw[I.predL ok this hr']at hq;cases hq
  ·cases hq:Lb L x with
   |false=>rfl
   |true=>have:=I.early x hxr hq;have:=ok.pairs.tame x t hx (by rw[this];simp) j (a0M ho) (Ne.symm e) (a6n.2 (.inl ht'));exact absurd (I.predD ok this hd') (I.apart hxr)
end
theorem Pend.up{C:Ctx}{i:Nat}{rest:List Nat}{L:Array Bool}{j:Nat}(h:Pend C rest L j):Pend C (i::rest) L j:=by
 obtain⟨h1,o,h2,h3⟩:=h;refine⟨h1,o,h2, ?_⟩;rcases h3 with⟨h4,h5,h6⟩|⟨m,h4,z,h5,h6⟩
 ·exact .inl ⟨h4,h5,List.mem_cons_of_mem _ h6⟩
 ·exact .inr ⟨m,h4,z,h5,List.mem_cons_of_mem _ h6⟩
theorem a4S{P:Program}{fe:FE}{nt:Nat}{all:List Oper}{ks:List SK}{mk:List Nat}{E0:Env}{ld:List (Nat×VV)}{i:Nat}{rest:List Nat}{a:VT}{H:VH}{pd:List Nat}{r:VT×VH}(h:a8o P fe nt all ks mk E0 ld (i::rest) a H pd=some r){o:Oper}(ho:a0H all i=some o):
  gOk all a o.guard=true∧((a1q all a o.guard=false∧ ∃a₁,a5T nt a o.dst a3P=some a₁∧a8o P fe nt all ks mk E0 ld rest a₁ H pd=some r)∨
  (a1q all a o.guard=true∧a1D ks i= .r∧ ∃v a₁,(evR P o.op a H).get=some v∧a5T nt a o.dst v=some a₁∧a8o P fe nt all ks mk E0 ld rest a₁ H (match cls P o.op with|0=>pd|_=>i::pd)=some r)∨
  (a1q all a o.guard=true∧(a1D ks i= .e∨(a1D ks i= .a∧a8x o.op=none∧a6x all o= []))∧(a1D ks i= .a→b0I P E0 all ld rest o a=true)∧ ∃v H₁ a₁,a3g P fe o.op a H=some (v,H₁)∧a4E P all mk i a H₁ pd=true∧a5T nt a o.dst v=some a₁∧a8o P fe nt all ks mk E0 ld rest a₁ H₁ (a5z mk i pd)=some r)∨
  (a1D ks i= .a∧b0I P E0 all ld rest o a=true∧a6x all o≠[]∧a8x o.op=none∧ ∃a₁,a5T nt a o.dst .one=some a₁∧a8o P fe nt all ks mk E0 ld rest a₁ H pd=some r)∨
  (a1D ks i= .a∧b0I P E0 all ld rest o a=true∧ ∃m,a8x o.op=some m∧((a7m (a0o all m) rest=true∧a8o P fe nt all ks mk E0 ld rest a H pd=some r)∨
   (a7m (a0o all m) rest=false∧ ∃a₁ H₁,c3j nt all m a H=some (a₁,H₁)∧a4E P all mk i a H₁ pd=true∧a8o P fe nt all ks mk E0 ld rest a₁ H₁ (a5z mk i pd)=some r)))):=by
 simp only[a8o,ho]at h;cases hgo:gOk all a o.guard with
 |false=>rw[hgo]at h;cases h
 |true=>
 rw[hgo]at h;simp only at h;refine⟨rfl, ?_⟩;cases hw:a1q all a o.guard with
 |false=>
  rw[hw]at h;simp only at h;cases hp:a5T nt a o.dst a3P with
  |none=>rw[hp]at h;cases h
  |some a₁=>rw[hp]at h;exact .inl ⟨rfl,a₁,rfl,h⟩
 |true=>
  rw[hw]at h;simp only at h
  have other:(match a3g P fe o.op a H with
     |some (v,H₁)=>match a4E P all mk i a H₁ pd with
      |true=>match a5T nt a o.dst v with
       |some a₁=>a8o P fe nt all ks mk E0 ld rest a₁ H₁ (a5z mk i pd)|none=>none
      |false=>none
     |none=>none)=some r→ ∃v H₁ a₁,a3g P fe o.op a H=some (v,H₁)∧a4E P all mk i a H₁ pd=true∧a5T nt a o.dst v=some a₁∧a8o P fe nt all ks mk E0 ld rest a₁ H₁ (a5z mk i pd)=some r:=by
   intro h;cases hr:a3g P fe o.op a H with
   |none=>rw[hr]at h;cases h
   |some vh=>
    obtain⟨v,H₁⟩:=vh;rw[hr]at h;simp only at h;cases hs:a4E P all mk i a H₁ pd with
    |false=>rw[hs]at h;cases h
    |true=>
     rw[hs]at h;simp only at h;cases hp:a5T nt a o.dst v with
     |none=>rw[hp]at h;cases h
     |some a₁=>rw[hp]at h;exact⟨v,H₁,a₁,rfl,hs,hp,h⟩
  cases hk:a1D ks i with
  |r=>
   rw[hk]at h;simp only at h;cases hr:(evR P o.op a H).get with
   |none=>rw[hr]at h;cases h
   |some v=>
    rw[hr]at h;simp only at h;cases hp:a5T nt a o.dst v with
    |none=>rw[hp]at h;cases h
    |some a₁=>rw[hp]at h;exact .inr (.inl ⟨rfl,rfl,v,a₁,rfl,hp,h⟩)
  |a=>
   rw[hk]at h;simp only at h;cases hlo:b0I P E0 all ld rest o a with
   |false=>rw[hlo]at h;cases h
   |true=>
    rw[hlo]at h;simp only at h;cases him:a8x o.op with
    |some m=>
     rw[him]at h;simp only at h;refine .inr (.inr (.inr (.inr ⟨rfl,rfl,m,rfl, ?_⟩)));cases han:a7m (a0o all m) rest with
     |true=>rw[han]at h;exact .inl ⟨rfl,h⟩
     |false=>
      rw[han]at h;simp only at h;cases hse:c3j nt all m a H with
      |none=>rw[hse]at h;cases h
      |some ah=>
       obtain⟨a₁,H₁⟩:=ah;rw[hse]at h;simp only at h;cases hst:a4E P all mk i a H₁ pd with
       |false=>rw[hst]at h;cases h
       |true=>rw[hst]at h;exact .inr ⟨rfl,a₁,H₁,rfl,hst,h⟩
    |none=>
     rw[him]at h;simp only at h;cases hgr:a6x all o with
     |nil=>rw[hgr]at h;exact .inr (.inr (.inl ⟨rfl,.inr ⟨rfl,rfl,rfl⟩,fun _=>rfl,other h⟩))
     |cons y ys=>
      rw[hgr]at h;simp only at h;cases hp:a5T nt a o.dst .one with
      |none=>rw[hp]at h;cases h
      |some a₁=>rw[hp]at h;exact .inr (.inr (.inr (.inl ⟨rfl,rfl,by simp,rfl,a₁,rfl,h⟩)))
  |e=>rw[hk]at h;exact .inr (.inr (.inl ⟨rfl,.inl rfl,(fun e=>by cases e),other h⟩))
end Go.Ev
