/- Engine, part 0: a state seen by other symbols, its blocks by other numbers. -/
import Derived.Test.YtmmmknhdigapkaaEvZ
namespace Go.Ev
set_option linter.unusedVariables false
noncomputable section
open Go.RowKit
abbrev Prs:=List (VV×VV)
def TT.ents{α:Type}:TT α→Nat→Nat→List (Nat×α)→List (Nat×α)
 |.lf,_,_,l=>l
 |.nd x v y,a,b,l=>match v with
  |some z=>(b,z)::TT.ents x (2*a) (a+b) (TT.ents y (2*a) (2*a+b) l)|none=>TT.ents x (2*a) (a+b) (TT.ents y (2*a) (2*a+b) l)
theorem TT.ents_acc{α:Type}: ∀{t:TT α} {a b:Nat} {l:List (Nat×α)} {p:Nat×α},p∈l→p∈TT.ents t a b l
 |.lf,_,_,_,_,h=>h
 |.nd x v y,a,b,l,p,h=>by
  simp only[TT.ents];split
  ·exact List.mem_cons_of_mem _ (TT.ents_acc (TT.ents_acc h))
  ·exact TT.ents_acc (TT.ents_acc h)
theorem TT.ents_mem{α:Type}: ∀{t:TT α} {a b:Nat} {l:List (Nat×α)} {k:Nat} {x:α},t.get k=some x→(a*k+b,x)∈TT.ents t a b l
 |.lf,_,_,_,k,x,h=>by cases h
 |.nd u v y,a,b,l,k,x,h=>by
  rw[TT.get_nd]at h
  have low: ∀p,p∈TT.ents u (2*a) (a+b) (TT.ents y (2*a) (2*a+b) l)→p∈TT.ents (.nd u v y) a b l:=by
   intro p hp;simp only[TT.ents];split
   ·exact List.mem_cons_of_mem _ hp
   ·exact hp
  split at h
  ·rename_i h0;have:k=0:=Nat.eq_of_beq_eq_true h0;subst this h;simp only[TT.ents,Nat.mul_zero,Nat.zero_add];exact List.mem_cons_self
  ·rename_i h0;have hk:k≠0:=by intro e;subst e;simp at h0
   split at h
   ·rename_i hm;have hm:=Nat.eq_of_beq_eq_true hm;refine low _ ?_;have:=TT.ents_mem (a:=2*a) (b:=a+b) (l:=TT.ents y (2*a) (2*a+b) l) h
    have e:2*a*(k/2)+(a+b)=a*k+b:=by
     have:k=2*(k/2)+1:=by omega
     generalize hq:k/2=q at this;subst this;rw[Nat.mul_add,Nat.mul_one,←Nat.mul_assoc,Nat.mul_comm a 2];omega
    rw[e]at this;exact this
   ·rename_i hm;have hm:k%2≠1:=by intro e;rw[e]at hm;simp at hm
    refine low _ (TT.ents_acc ?_);have:=TT.ents_mem (a:=2*a) (b:=2*a+b) (l:=l) h
    have e:2*a*(k/2-1)+(2*a+b)=a*k+b:=by
     have:k=2*(k/2-1)+2:=by omega
     generalize hq:k/2-1=q at this;subst this;rw[Nat.mul_add,←Nat.mul_assoc,Nat.mul_comm a 2];omega
    rw[e]at this;exact this
def mvB(N:Nat)(m:TT Nat):VB→VB→Bool
 |.base r,.base r'=>Nat.beq r r'
 |.sym i,.sym j=>match Nat.beq i j with
  |true=>Nat.blt i N|false=>false
 |.loc i,.loc j=>match m.get j with
  |some i'=>Nat.beq i i'|none=>false
 |_,_=>false
def mvA(N:Nat)(m:TT Nat)(a b:VA):Bool:=match mvB N m a.b b.b with
 |true=>Nat.beq a.o b.o|false=>false
def d5T(N:Nat):List VV→Bool
 | []=>true|.string _::l=>d5T N l
 |.sym i::l=>match Nat.blt i N with
  |true=>d5T N l|false=>false
 |_::_=>false
def mvP(N:Nat)(ps qs:List VV)(l:Prs):Option Prs:=match d5T N qs with
 |true=>match c5g ps qs with
  |true=>some l|false=>none
 |false=>match qs with
  | [.sym i]=>some ((.cat ps,.sym i)::l)|_=>none
def mvQ(N:Nat)(ps qs:List VV)(l:Prs):Option Prs:=match d5T N qs with
 |true=>match c5g ps qs with
  |true=>some l|false=>none
 |false=>some ((.tlen ps,.tlen qs)::l)
def mvL(N:Nat)(m:TT Nat)(x y:VV)(l:Prs):Option Prs:=match y with
 |.any=>some l
 |.sint k i=>match Nat.blt i N with
  |true=>match a1E x (.sint k i)with
   |true=>some l|false=>none
  |false=>some ((x,.sint k i)::l)
 |.sym i=>match Nat.blt i N with
  |true=>match a1E x (.sym i)with
   |true=>some l|false=>none
  |false=>some ((x,.sym i)::l)
 |.ptr (some b)=>match x with
  |.ptr (some a)=>match mvA N m a b with
   |true=>some l|false=>none
  |_=>none
 |.slice (some b) n' c'=>match x with
  |.slice (some a) n c=>match mvA N m a b,Nat.beq n n',Nat.beq c c' with
   |true,true,true=>some l|_,_,_=>none
  |_=>none
 |.map (some b)=>match x with
  |.map (some a)=>match mvB N m a b with
   |true=>some l|false=>none
  |_=>none
 |.lsl b n k=>match x with
  |.lsl b0 n0 k0=>match mvB N m (.loc b0) (.loc b)with
   |true=>match Nat.beq n n0,Nat.beq k k0,Nat.blt n N with
    |true,true,true=>some l|_,_,_=>some ((.tuple [.sint .i64 n0,.int .i64 k0],.tuple [.sint .i64 n,.int .i64 k])::l)
   |false=>none
  |.slice (some a) len cap=>match mvA N m a ⟨.loc b,0⟩,Nat.beq len cap with
   |true,true=>some ((.tuple [.int .i64 len],.tuple [.sint .i64 n,.int .i64 k])::l)|_,_=>none
  |_=>none
 |.tsl b qs=>match x with
  |.tsl b0 ps=>match mvB N m (.loc b0) (.loc b)with
   |true=>mvQ N ps qs l|false=>none
  |.slice (some a) len cap=>match mvA N m a ⟨.loc b,0⟩,Nat.beq len cap,Nat.blt 0 len with
   |true,true,true=>some ((.int .i64 len,.tlen qs)::l)|_,_,_=>none
  |_=>none
 |.cat qs=>match x with
  |.cat ps=>mvP N ps qs l|_=>none
 |y=>match a6j 0 0 y,a1E x y with
  |true,true=>some l|_,_=>none
def c5f:Fn→Fn→Bool
 |.func a,.func b=>Nat.beq a b|_,_=>false
theorem c5e{a b:Fn}(h:c5f a b=true):a=b:=by cases a<;>cases b<;>simp[c5f]at h;rw[h]
mutual
def mvV(N:Nat)(m:TT Nat):VV→VV→Prs→Option Prs
 |.iface t x,y,l=>match y with
  |.iface u z=>match Nat.beq t u with
   |true=>mvV N m x z l|false=>none
  |y=>mvL N m (.iface t x) y l
 |.func f xs cs,y,l=>match y with
  |.func g ys ds=>match c5f f g with
   |true=>match mvVs N m xs ys l with
    |some l=>mvVs N m cs ds l|none=>none
   |false=>none
  |y=>mvL N m (.func f xs cs) y l
 |.agg xs,y,l=>match y with
  |.agg ys=>mvVs N m xs ys l|y=>mvL N m (.agg xs) y l
 |.tuple xs,y,l=>match y with
  |.tuple ys=>mvVs N m xs ys l|y=>mvL N m (.tuple xs) y l
 |x,y,l=>mvL N m x y l
def mvVs(N:Nat)(m:TT Nat):List VV→List VV→Prs→Option Prs
 | [],[],l=>some l
 |x::xs,y::ys,l=>match mvV N m x y l with
  |some l=>mvVs N m xs ys l|none=>none
 |_,_,_=>none
end
def d9b(ρ:Rho):VV→Option Nat
 |.tuple [.sint _ n,.int _ k]=>some ((ρ.int n).toNat+k.toNat)|.tuple [.int _ k]=>some k.toNat|_=>none
def e4V(ρ:Rho):VV→Option (List Value)
 |.agg (.sym j::l)=>a3S ρ (ρ.lst j++l)|.agg (.nilIface::l)=>a3S ρ l|_=>none
def e4U(ρ:Rho)(vs:List Value):VV→Prop
 |.agg (.sym j:: .sint _ n:: .int _ sz::l)=>a3S ρ (ρ.lst j++l)=some vs∧0≤ρ.int n∧(ρ.lst j).length=(ρ.int n).toNat*sz.toNat|_=>False
def Car(ρ ρ':Rho):VV×VV→Prop
 |(x,.tuple ys)=> ∃n,d9b ρ x=some n∧d9b ρ' (.tuple ys)=some n|(x,.agg ys)=> ∃vs,e4V ρ x=some vs∧e4U ρ' vs (.agg ys)|(x,y)=> ∃v,a0g ρ x=some v∧a0g ρ' y=some v
def Phi.mv(φ:Phi)(m:TT Nat)(ρ':Rho):Phi:=⟨fun j=>match m.get j with|some i=>φ i|none=>none,ρ'⟩
theorem Phi.mv_at{φ:Phi}{m:TT Nat}{ρ':Rho}{i j:Nat}(h:m.get j=some i):(φ.mv m ρ') j=φ i:=by show(match m.get j with|some i=>φ i|none=>none)=φ i;rw[h]
theorem Phi.mv_of{φ:Phi}{m:TT Nat}{ρ':Rho}{j:Nat}{inf:Inf}(h:(φ.mv m ρ') j=some inf): ∃i,m.get j=some i∧φ i=some inf:=by
 have h':(match m.get j with|some i=>φ i|none=>none)=some inf:=h;split at h'
 ·exact⟨_,‹_›,h'⟩
 ·cases h'
section
variable{φ:Phi}{N:Nat}{m:TT Nat}{ρ':Rho}
theorem c2H(ha:agree N φ.ρ ρ'){a b:VA}(h:mvA N m a b=true){a':Addr}{s:Nat}(k:AR φ a a' s):AR (φ.mv m ρ') b a' s:=by
 unfold mvA at h;split at h
 ·rename_i hb;have ho:=Nat.eq_of_beq_eq_true h;obtain⟨x,o⟩:=a;obtain⟨y,o'⟩:=b;simp only at ho hb;subst ho;cases x<;>cases y<;>simp only[mvB]at hb<;>try (cases hb;done)
  ·have:=Nat.eq_of_beq_eq_true hb;subst this;exact k
  ·rename_i i j;split at hb
   ·rename_i he;have:=Nat.eq_of_beq_eq_true he;subst this;obtain⟨_,_,h3,h4,_⟩:=ha i (a0G hb);unfold AR at k ⊢;simp only at k ⊢;show a'=⟨ρ'.blk i,ρ'.off i+o,none⟩∧s=0;rw[h3,h4];exact k
   ·cases hb
  ·rename_i i j;split at hb
   ·rename_i i' hm;have:=Nat.eq_of_beq_eq_true hb;subst this;unfold AR at k ⊢;obtain⟨inf,h1,h2⟩:=k;exact⟨inf,by rw[Phi.mv_at hm];exact h1,h2⟩
   ·cases hb
 ·cases h
theorem d6x(ha:agree N φ.ρ ρ'){a b:VB}(h:mvB N m a b=true){r:Nat}(k:BR φ a r):BR (φ.mv m ρ') b r:=by
 cases a<;>cases b<;>simp only[mvB]at h<;>try (cases h;done)
 ·have:=Nat.eq_of_beq_eq_true h;subst this;exact k
 ·rename_i i j;split at h
  ·rename_i he;have:=Nat.eq_of_beq_eq_true he;subst this;obtain⟨_,_,h3,_,_⟩:=ha i (a0G h);unfold BR at k ⊢;simp only at k ⊢;show r=ρ'.blk i;rw[h3];exact k
  ·cases h
 ·rename_i i j;split at h
  ·rename_i i' hm;have:=Nat.eq_of_beq_eq_true h;subst this;unfold BR at k ⊢;obtain⟨inf,h1,h2⟩:=k;exact⟨inf,by rw[Phi.mv_at hm];exact h1,h2⟩
  ·cases h
theorem b3y{x:VV}{v:Value}(h:a6j 0 0 x=true)(k:VR φ x v):VR (φ.mv m ρ') x v:=by have:=b0u (N:=0) (n:=0) (ρ':=ρ') (φ:=φ) (fun i hi=>absurd hi (Nat.not_lt_zero _)) x v h k;refine VR.mono (φ:=φ.low 0 ρ') (ψ:=φ.mv m ρ') ⟨fun i inf hi=> ?_,rfl⟩ x v this;have h':(if i<0 then φ i else none)=some inf:=hi;rw[if_neg (Nat.not_lt_zero _)]at h';cases h'
theorem a8M(ha:agree N φ.ρ ρ'): ∀{ps:List VV},d5T N ps=true→a1X ρ' ps=a1X φ.ρ ps
 | [],_=>rfl
 |p::l,h=>by
  unfold d5T at h;split at h
  ·rename_i heq;cases heq
  ·rename_i s l' heq;simp only[List.cons.injEq]at heq;obtain⟨rfl,rfl⟩:=heq;simp only[a1X,a5V,a8M ha h]
  ·rename_i i l' heq;simp only[List.cons.injEq]at heq;obtain⟨rfl,rfl⟩:=heq;split at h
   ·rename_i hi;simp only[a1X,a5V,a8M ha h,(ha i (a0G hi)).2.1]
   ·cases h
  ·cases h
theorem c6a(ha:agree N φ.ρ ρ'){ps qs:List VV}{l l':Prs}(h:mvP N ps qs l=some l')(hc: ∀p∈l',Car φ.ρ ρ' p){s:ByteArray}(hs:a1X φ.ρ ps=some s):a1X ρ' qs=some s∧ ∀p∈l,Car φ.ρ ρ' p:=by
 unfold mvP at h;split at h
 ·rename_i h1;split at h
  ·rename_i h2;simp only[Option.some.injEq]at h;subst h;have:=a7S h2;subst this;exact⟨by rw[a8M ha h1];exact hs,hc⟩
  ·cases h
 ·split at h
  ·rename_i i;simp only[Option.some.injEq]at h;subst h;obtain⟨v,h1,h2⟩:=hc _ List.mem_cons_self;simp only[a0g,hs,Option.some.injEq]at h1 h2;refine⟨?_,fun p hp=>hc p (List.mem_cons_of_mem _ hp)⟩;refine a7x ?_;simp only[a5V,h2,←h1]
  ·cases h
theorem d6v(ha:agree N φ.ρ ρ'){ps qs:List VV}{l l':Prs}(h:mvQ N ps qs l=some l')(hc: ∀p∈l',Car φ.ρ ρ' p){s:ByteArray}(hs:a1X φ.ρ ps=some s):(∃t,a1X ρ' qs=some t∧t.size=s.size)∧ ∀p∈l,Car φ.ρ ρ' p:=by
 unfold mvQ at h;split at h
 ·rename_i h1;split at h
  ·rename_i h2;simp only[Option.some.injEq]at h;subst h;have:=a7S h2;subst this;exact⟨⟨s,by rw[a8M ha h1];exact hs,rfl⟩,hc⟩
  ·cases h
 ·simp only[Option.some.injEq]at h;subst h;obtain⟨v,h1,h2⟩:=hc _ List.mem_cons_self;simp only[a0g,hs,Option.some.injEq]at h1 h2;refine⟨?_,fun p hp=>hc p (List.mem_cons_of_mem _ hp)⟩;split at h2
  ·rename_i t ht;simp only[Option.some.injEq]at h2;rw[←h1]at h2;simp only[Value.int.injEq,true_and]at h2;exact⟨t,ht,by omega⟩
  ·cases h2
theorem d3X{ps qs:List VV}{l l':Prs}(h:mvQ N ps qs l=some l'): ∀p∈l,p∈l':=by
 unfold mvQ at h
 repeat' split at h
 all_goals first
  |(cases h;done)
  |(simp only[Option.some.injEq]at h;subst h;exact fun p hp=>hp)
  |(simp only[Option.some.injEq]at h;subst h;exact fun p hp=>List.mem_cons_of_mem _ hp)
theorem c0R{ps qs:List VV}{l l':Prs}(h:mvP N ps qs l=some l'): ∀p∈l,p∈l':=by
 unfold mvP at h
 repeat' split at h
 all_goals first
  |(cases h;done)
  |(simp only[Option.some.injEq]at h;subst h;exact fun p hp=>hp)
  |(simp only[Option.some.injEq]at h;subst h;exact fun p hp=>List.mem_cons_of_mem _ hp)
theorem a1c(ha:agree N φ.ρ ρ'){x y:VV}{l l':Prs}{v:Value}(h:mvL N m x y l=some l')(hc: ∀p∈l',Car φ.ρ ρ' p)(k:VR φ x v):VR (φ.mv m ρ') y v∧ ∀p∈l,Car φ.ρ ρ' p:=by
 have fin: ∀z:VV,(match a6j 0 0 z,a1E x z with|true,true=>some l|_,_=>none)=some l'→VR (φ.mv m ρ') z v∧ ∀p∈l,Car φ.ρ ρ' p:=by
  intro z hz;split at hz
  ·rename_i h1 h2;simp only[Option.some.injEq]at hz;subst hz;rw[a0f _ _ h2]at k;exact⟨b3y h1 k,hc⟩
  ·cases hz
 cases y with
 |any=>simp only[mvL,Option.some.injEq]at h;subst h;exact⟨by simp only[VR],hc⟩
 |sint kk i=>
  simp only[mvL]at h;split at h
  ·rename_i hi;split at h
   ·rename_i he;simp only[Option.some.injEq]at h;subst h;rw[a0f _ _ he]at k;simp only[VR]at k ⊢;refine⟨?_,hc⟩;show v=Value.int kk (ρ'.int i);rw[(ha i (a0G hi)).1];exact k
   ·cases h
  ·simp only[Option.some.injEq]at h;subst h;obtain⟨v0,h1,h2⟩:=hc _ List.mem_cons_self;rw[a0q h1 k];exact⟨a3x h2,fun p hp=>hc p (List.mem_cons_of_mem _ hp)⟩
 |sym i=>
  simp only[mvL]at h;split at h
  ·rename_i hi;split at h
   ·rename_i he;simp only[Option.some.injEq]at h;subst h;rw[a0f _ _ he]at k;simp only[VR]at k ⊢;refine⟨?_,hc⟩;show v=ρ'.val i;rw[(ha i (a0G hi)).2.1];exact k
   ·cases h
  ·simp only[Option.some.injEq]at h;subst h;obtain⟨v0,h1,h2⟩:=hc _ List.mem_cons_self;rw[a0q h1 k];exact⟨a3x h2,fun p hp=>hc p (List.mem_cons_of_mem _ hp)⟩
 |ptr b=>
  cases b with
  |none=>exact fin _ h
  |some b=>
   simp only[mvL]at h;split at h
   ·split at h
    ·rename_i hb;simp only[Option.some.injEq]at h;subst h;simp only[VR]at k ⊢;obtain⟨a',s,k1,k2⟩:=k;exact⟨⟨a',s,c2H ha hb k1,k2⟩,hc⟩
    ·cases h
   ·cases h
 |slice b n' c'=>
  cases b with
  |none=>exact fin _ h
  |some b=>
   simp only[mvL]at h;split at h
   ·split at h
    ·rename_i hb h1 h2;have:=Nat.eq_of_beq_eq_true h1;subst this;have:=Nat.eq_of_beq_eq_true h2;subst this;simp only[Option.some.injEq]at h;subst h;simp only[VR]at k ⊢;obtain⟨a',s,k1,k2⟩:=k;exact⟨⟨a',s,c2H ha hb k1,k2⟩,hc⟩
    ·cases h
   ·cases h
 |map b=>
  cases b with
  |none=>exact fin _ h
  |some b=>
   simp only[mvL]at h;split at h
   ·split at h
    ·rename_i hb;simp only[Option.some.injEq]at h;subst h;simp only[VR]at k ⊢;obtain⟨r,k1,k2⟩:=k;exact⟨⟨r,d6x ha hb k1,k2⟩,hc⟩
    ·cases h
   ·cases h
 |lsl b n kk=>
  simp only[mvL]at h;split at h
  ·rename_i b0 n0 k0;split at h
   ·rename_i hb;simp only[VR]at k ⊢;obtain⟨inf,k1,rfl⟩:=k
    have hm:(φ.mv m ρ') b=some inf:=by
     simp only[mvB]at hb;split at hb
     ·rename_i i' hi';rw[Phi.mv_at hi',←Nat.eq_of_beq_eq_true hb];exact k1
     ·cases hb
    split at h
    ·rename_i e1 e2 e3;have:=Nat.eq_of_beq_eq_true e1;subst this;have:=Nat.eq_of_beq_eq_true e2;subst this;simp only[Option.some.injEq]at h;subst h;refine⟨⟨inf,hm, ?_⟩,hc⟩;show _=Value.slice _ ((ρ'.int n).toNat+kk) ((ρ'.int n).toNat+kk+inf.slack);rw[(ha n (a0G e3)).1]
    ·simp only[Option.some.injEq]at h;subst h;obtain⟨q,h1,h2⟩:=hc _ List.mem_cons_self;simp only[d9b,Option.some.injEq,Int.toNat_natCast]at h1 h2;refine⟨⟨inf,hm, ?_⟩,fun p hp=>hc p (List.mem_cons_of_mem _ hp)⟩;show _=Value.slice _ ((ρ'.int n).toNat+kk) ((ρ'.int n).toNat+kk+inf.slack);rw[h1,h2]
   ·cases h
  ·rename_i a len cap;split at h
   ·rename_i hb e1;have:=Nat.eq_of_beq_eq_true e1;subst this;simp only[Option.some.injEq]at h;subst h;obtain⟨q,h1,h2⟩:=hc _ List.mem_cons_self;simp only[d9b,Option.some.injEq,Int.toNat_natCast]at h1 h2;simp only[VR]at k ⊢;obtain⟨a',s,k1,rfl⟩:=k;obtain⟨inf,g1,g2,g3⟩:=c2H (ρ':=ρ') ha hb k1;refine⟨⟨inf,g1, ?_⟩,fun p hp=>hc p (List.mem_cons_of_mem _ hp)⟩;show _=Value.slice _ ((ρ'.int n).toNat+kk) ((ρ'.int n).toNat+kk+inf.slack);rw[g2,g3,h2,h1];rfl
   ·cases h
  ·cases h
 |tsl b qs=>
  simp only[mvL]at h;split at h
  ·rename_i b0 ps;split at h
   ·rename_i hb;simp only[VR]at k ⊢;obtain⟨inf,s,k1,k2,k3,rfl⟩:=k
    have hm:(φ.mv m ρ') b=some inf:=by
     simp only[mvB]at hb;split at hb
     ·rename_i i' hi';rw[Phi.mv_at hi',←Nat.eq_of_beq_eq_true hb];exact k1
     ·cases hb
    obtain⟨⟨t,g1,g3⟩,g2⟩:=d6v ha h hc k2;exact⟨⟨inf,t,hm,g1,by omega,by rw[g3]⟩,g2⟩
   ·cases h
  ·rename_i a len cap;split at h
   ·rename_i hb e1 e2;have:=Nat.eq_of_beq_eq_true e1;subst this;simp only[Option.some.injEq]at h;subst h;obtain⟨q,h1,h2⟩:=hc _ List.mem_cons_self;simp only[a0g,Option.some.injEq]at h1 h2;split at h2
    ·rename_i t ht;simp only[Option.some.injEq]at h2;rw[←h1]at h2;simp only[Value.int.injEq,true_and]at h2;have hts:t.size=len:=by omega
     simp only[VR]at k ⊢;obtain⟨a',s,k1,rfl⟩:=k;obtain⟨inf,g1,g2,g3⟩:=c2H (ρ':=ρ') ha hb k1;refine⟨⟨inf,t,g1,ht,by rw[hts];exact a0G e2, ?_⟩,fun p hp=>hc p (List.mem_cons_of_mem _ hp)⟩;rw[g2,g3,hts];rfl
    ·cases h2
   ·cases h
  ·cases h
 |cat qs=>
  simp only[mvL]at h;split at h
  ·rename_i ps;simp only[VR]at k ⊢;obtain⟨s,k2,rfl⟩:=k;obtain⟨g1,g2⟩:=c6a ha h hc k2;exact⟨⟨s,g1,rfl⟩,g2⟩
  ·cases h
 |_=>exact fin _ h
mutual
theorem b3z(ha:agree N φ.ρ ρ'): ∀(x y:VV) (l l':Prs) (v:Value),mvV N m x y l=some l'→(∀p∈l',Car φ.ρ ρ' p)→VR φ x v→VR (φ.mv m ρ') y v∧ ∀p∈l,Car φ.ρ ρ' p
 |.iface t x,y,l,l',v,h,hc,k=>by
  simp only[mvV]at h;split at h
  ·split at h
   ·rename_i e;have:=Nat.eq_of_beq_eq_true e;subst this;simp only[VR]at k;obtain⟨x',k1,k2⟩:=k;obtain⟨g1,g2⟩:=b3z ha x _ l l' x' h hc k1;exact⟨by simp only[VR];exact⟨x',g1,k2⟩,g2⟩
   ·cases h
  ·exact a1c ha h hc k
 |.func f xs cs,y,l,l',v,h,hc,k=>by
  simp only[mvV]at h;split at h
  ·rename_i g ys ds;split at h
   ·rename_i hf;have:=c5e hf;subst this;split at h
    ·rename_i l1 h1;simp only[VR]at k;obtain⟨f',c',k0,k1,k2,k3⟩:=k;obtain⟨g1,g2⟩:=mvVs_ok ha cs ds l1 l' c' h hc k2;obtain⟨g3,g4⟩:=mvVs_ok ha xs ys l l1 f' h1 g2 k1;exact⟨by simp only[VR];exact⟨f',c',k0,g3,g1,k3⟩,g4⟩
    ·cases h
   ·cases h
  ·exact a1c ha h hc k
 |.agg xs,y,l,l',v,h,hc,k=>by
  simp only[mvV]at h;split at h
  ·simp only[VR]at k;obtain⟨x',k1,k2⟩:=k;obtain⟨g1,g2⟩:=mvVs_ok ha xs _ l l' x' h hc k1;exact⟨by simp only[VR];exact⟨x',g1,k2⟩,g2⟩
  ·exact a1c ha h hc k
 |.tuple xs,y,l,l',v,h,hc,k=>by
  simp only[mvV]at h;split at h
  ·simp only[VR]at k;obtain⟨x',k1,k2⟩:=k;obtain⟨g1,g2⟩:=mvVs_ok ha xs _ l l' x' h hc k1;exact⟨by simp only[VR];exact⟨x',g1,k2⟩,g2⟩
  ·exact a1c ha h hc k
 |.bool _,y,l,l',v,h,hc,k=>a1c ha h hc k|.int _ _,y,l,l',v,h,hc,k=>a1c ha h hc k|.string _,y,l,l',v,h,hc,k=>a1c ha h hc k|.ptr _,y,l,l',v,h,hc,k=>a1c ha h hc k|.slice _ _ _,y,l,l',v,h,hc,k=>a1c ha h hc k|.sliceE,y,l,l',v,h,hc,k=>a1c ha h hc k|.odd _,y,l,l',v,h,hc,k=>a1c ha h hc k|.lsl _ _ _,y,l,l',v,h,hc,k=>a1c ha h hc k|.cat _,y,l,l',v,h,hc,k=>a1c ha h hc k|.tsl _ _,y,l,l',v,h,hc,k=>a1c ha h hc k|.tlen _,y,l,l',v,h,hc,k=>a1c ha h hc k|.any,y,l,l',v,h,hc,k=>a1c ha h hc k|.one,y,l,l',v,h,hc,k=>a1c ha h hc k|.sint _ _,y,l,l',v,h,hc,k=>a1c ha h hc k|.sym _,y,l,l',v,h,hc,k=>a1c ha h hc k|.map _,y,l,l',v,h,hc,k=>a1c ha h hc k|.yield _,y,l,l',v,h,hc,k=>a1c ha h hc k|.nilFunc,y,l,l',v,h,hc,k=>a1c ha h hc k|.nilIface,y,l,l',v,h,hc,k=>a1c ha h hc k
theorem mvVs_ok(ha:agree N φ.ρ ρ'): ∀(xs ys:List VV) (l l':Prs) (vs:List Value),mvVs N m xs ys l=some l'→(∀p∈l',Car φ.ρ ρ' p)→VRs φ xs vs→VRs (φ.mv m ρ') ys vs∧ ∀p∈l,Car φ.ρ ρ' p
 | [],[],l,l',vs,h,hc,k=>by simp only[mvVs,Option.some.injEq]at h;subst h;exact⟨by simpa only[VRs]using k,hc⟩
 | [],_::_,_,_,_,h,_,_=>by simp[mvVs]at h
 |_::_,[],_,_,_,h,_,_=>by simp[mvVs]at h
 |x::xs,y::ys,l,l',vs,h,hc,k=>by
  simp only[mvVs]at h;split at h
  ·rename_i l1 h1;simp only[VRs]at k;obtain⟨z,zs,rfl,k1,k2⟩:=k;obtain⟨g1,g2⟩:=mvVs_ok ha xs ys l1 l' zs h hc k2;obtain⟨g3,g4⟩:=b3z ha x y l l1 z h1 g2 k1;exact⟨by simp only[VRs];exact⟨z,zs,rfl,g3,g1⟩,g4⟩
  ·cases h
end
end
def c6c(N:Nat)(m:TT Nat):List (VV×VV×Nat)→List (VV×VV×Nat)→Prs→Option Prs
 | [],[],l=>some l
 |(a,b,c)::xs,(a',b',c')::ys,l=>match Nat.beq c c',mvV N m a a' l with
  |true,some l=>match mvV N m b b' l with
   |some l=>c6c N m xs ys l|none=>none
  |_,_=>none
 |_,_,_=>none
def d6k(g g':Option Nat):Bool:=match g,g' with
 |none,_=>true|some z,some z'=>Nat.beq z z'|some _,none=>false
def c8a(e e':Option TypeId):Bool:=match e' with
 |none=>true|e'=>a5Z e e'
def c9m:List (VV×VV)→Bool
 | []=>true
 |(x,y)::l=>match a6j 0 0 x,a6j 0 0 y with
  |true,true=>c9m l|_,_=>false
theorem b7c: ∀{l:List (VV×VV)},c9m l=true→ ∀p∈l,a6j 0 0 p.1=true∧a6j 0 0 p.2=true
 | [],_,p,hp=>by cases hp
 |(x,y)::l,h,p,hp=>by
  simp only[c9m]at h;split at h
  ·rename_i h1 h2;rcases List.mem_cons.1 hp with rfl|hp
   ·exact⟨h1,h2⟩
   ·exact b7c h p hp
  ·cases h
theorem c8O{φ:Phi}{m:TT Nat}{ρ':Rho}: ∀{l:List (VV×VV)} {es:List MapEntry},(∀p∈l,a6j 0 0 p.1=true∧a6j 0 0 p.2=true)→EUs φ l es→EUs (φ.mv m ρ') l es
 | [],es,_,k=>by simpa only[EUs]using k
 |p::l,es,h,k=>by simp only[EUs]at k ⊢;obtain⟨y,ys,h1,h2,h3,h4⟩:=k;obtain⟨g1,g2⟩:=h p List.mem_cons_self;exact⟨y,ys,h1,b3y g1 h2,b3y g2 h3,c8O (fun q hq=>h q (List.mem_cons_of_mem _ hq)) h4⟩
def mvO(N:Nat)(m:TT Nat):VO→VO→Prs→Option Prs
 |.cells c g ro et,.cells c' g' ro' et',l=>match a5Z g g',Nat.ble ro ro',c8a et et' with
  |true,true,true=>mvVs N m c c' l|_,_,_=>none
 |.map es c,.map es' c',l=>match Nat.beq c c' with
  |true=>c6c N m es es' l|false=>none
 |.cells c g ro et,.list j n sz tail et',l=>match d6k g (some sz),Nat.beq ro 0,c8a et et' with
  |true,true,true=>some ((.agg (.nilIface::c),.agg (.sym j:: .sint .i64 n:: .int .i64 sz::tail))::l)|_,_,_=>none
 |.list j0 n0 sz0 tail0 et,.list j n sz tail et',l=>match Nat.beq sz0 sz,c8a et et' with
  |true,true=>some ((.agg (.sym j0::tail0),.agg (.sym j:: .sint .i64 n:: .int .i64 sz::tail))::l)|_,_=>none
 |.cells c (some 1) 0 et,.txt qs et',l=>match c8a et et',c6p c with
  |true,some bs=>mvP N [.string ⟨⟨bs⟩⟩] qs l|_,_=>none
 |.txt ps et,.txt qs et',l=>match c8a et et' with
  |true=>mvP N ps qs l|false=>none
 |.siter s p,o',l=>match d0p (.siter s p) o' with
  |true=>some l|false=>none
 |.mapU es,o',l=>match d0p (.mapU es) o',c9m es with
  |true,true=>some l|_,_=>none
 |_,_,_=>none
section
variable{φ:Phi}{N:Nat}{m:TT Nat}{ρ':Rho}
theorem c2F: ∀{xs ys:List VV} {l l':Prs},mvVs N m xs ys l=some l'→xs.length=ys.length
 | [],[],_,_,_=>rfl
 | [],_::_,_,_,h=>by simp[mvVs]at h
 |_::_,[],_,_,h=>by simp[mvVs]at h
 |x::xs,y::ys,l,l',h=>by
  simp only[mvVs]at h;split at h
  ·have:=c2F h;simp only[List.length_cons,this]
  ·cases h
theorem a0t{x y:VV}{l l':Prs}(h:mvL N m x y l=some l'): ∀p∈l,p∈l':=by
 unfold mvL at h
 repeat' split at h
 all_goals first
  |(cases h;done)
  |exact c0R h
  |exact d3X h
  |(simp only[Option.some.injEq]at h;subst h;exact fun p hp=>hp)
  |(simp only[Option.some.injEq]at h;subst h;exact fun p hp=>List.mem_cons_of_mem _ hp)
mutual
theorem a9M: ∀(x y:VV) (l l':Prs),mvV N m x y l=some l'→ ∀p∈l,p∈l'
 |.iface t x,y,l,l',h=>by
  simp only[mvV]at h;split at h
  ·split at h
   ·exact a9M x _ l l' h
   ·cases h
  ·exact a0t h
 |.func f xs cs,y,l,l',h=>by
  simp only[mvV]at h;split at h
  ·split at h
   ·split at h
    ·rename_i l1 h1;exact fun p hp=>mvVs_sub cs _ l1 l' h p (mvVs_sub xs _ l l1 h1 p hp)
    ·cases h
   ·cases h
  ·exact a0t h
 |.agg xs,y,l,l',h=>by
  simp only[mvV]at h;split at h
  ·exact mvVs_sub xs _ l l' h
  ·exact a0t h
 |.tuple xs,y,l,l',h=>by
  simp only[mvV]at h;split at h
  ·exact mvVs_sub xs _ l l' h
  ·exact a0t h
 |.bool _,y,l,l',h=>a0t h|.int _ _,y,l,l',h=>a0t h|.string _,y,l,l',h=>a0t h|.ptr _,y,l,l',h=>a0t h|.slice _ _ _,y,l,l',h=>a0t h|.sliceE,y,l,l',h=>a0t h|.odd _,y,l,l',h=>a0t h|.lsl _ _ _,y,l,l',h=>a0t h|.cat _,y,l,l',h=>a0t h|.tsl _ _,y,l,l',h=>a0t h|.tlen _,y,l,l',h=>a0t h|.any,y,l,l',h=>a0t h|.one,y,l,l',h=>a0t h|.sint _ _,y,l,l',h=>a0t h|.sym _,y,l,l',h=>a0t h|.map _,y,l,l',h=>a0t h|.yield _,y,l,l',h=>a0t h|.nilFunc,y,l,l',h=>a0t h|.nilIface,y,l,l',h=>a0t h
theorem mvVs_sub: ∀(xs ys:List VV) (l l':Prs),mvVs N m xs ys l=some l'→ ∀p∈l,p∈l'
 | [],[],l,l',h=>by simp only[mvVs,Option.some.injEq]at h;subst h;exact fun p hp=>hp
 | [],_::_,_,_,h=>by simp[mvVs]at h
 |_::_,[],_,_,h=>by simp[mvVs]at h
 |x::xs,y::ys,l,l',h=>by
  simp only[mvVs]at h;split at h
  ·rename_i l1 h1;exact fun p hp=>mvVs_sub xs ys l1 l' h p (a9M x y l l1 h1 p hp)
  ·cases h
end
theorem b5F: ∀{xs ys:List (VV×VV×Nat)} {l l':Prs},c6c N m xs ys l=some l'→ ∀p∈l,p∈l'
 | [],[],l,l',h=>by simp only[c6c,Option.some.injEq]at h;subst h;exact fun p hp=>hp
 | [],_::_,_,_,h=>by simp[c6c]at h
 |_::_,[],_,_,h=>by simp[c6c]at h
 |(a,b,c)::xs,(a',b',c')::ys,l,l',h=>by
  simp only[c6c]at h;split at h
  ·rename_i l1 h0 h1;split at h
   ·rename_i l2 h2;exact fun p hp=>b5F h p (a9M _ _ _ _ h2 p (a9M _ _ _ _ h1 p hp))
   ·cases h
  ·cases h
theorem d3Y{o o':VO}{l l':Prs}(h:mvO N m o o' l=some l'): ∀p∈l,p∈l':=by
 unfold mvO at h;split at h
 ·split at h
  ·exact mvVs_sub _ _ _ _ h
  ·cases h
 ·split at h
  ·exact b5F h
  ·cases h
 ·split at h
  ·simp only[Option.some.injEq]at h;subst h;exact fun p hp=>List.mem_cons_of_mem _ hp
  ·cases h
 ·split at h
  ·simp only[Option.some.injEq]at h;subst h;exact fun p hp=>List.mem_cons_of_mem _ hp
  ·cases h
 ·split at h
  ·exact c0R h
  ·cases h
 ·split at h
  ·exact c0R h
  ·cases h
 ·split at h
  ·simp only[Option.some.injEq]at h;subst h;exact fun p hp=>hp
  ·cases h
 ·split at h
  ·simp only[Option.some.injEq]at h;subst h;exact fun p hp=>hp
  ·cases h
 ·cases h
theorem c2G(ha:agree N φ.ρ ρ'): ∀{xs ys:List VV} {l l':Prs},mvVs N m xs ys l=some l'→(∀p∈l',Car φ.ρ ρ' p)→ ∀(j:Nat) (y:VV),ys[j]? =some y→ ∃x,xs[j]? =some x∧ ∀v,VR φ x v→VR (φ.mv m ρ') y v
 | [],[],l,l',h,hc,j,y,hy=>by simp at hy
 | [],_::_,_,_,h,_,_,_,_=>by simp[mvVs]at h
 |_::_,[],_,_,h,_,_,_,_=>by simp[mvVs]at h
 |x::xs,y::ys,l,l',h,hc,j,z,hz=>by
  simp only[mvVs]at h;split at h
  ·rename_i l1 h1;cases j with
   |zero=>cases hz;exact⟨x,rfl,fun v k=>(b3z ha x y l l1 v h1 (fun p hp=>hc p (mvVs_sub _ _ _ _ h p hp)) k).1⟩
   |succ j=>exact c2G ha h hc j z hz
  ·cases h
theorem c6b(ha:agree N φ.ρ ρ'): ∀{xs ys:List (VV×VV×Nat)} {l l':Prs} {es:List MapEntry},c6c N m xs ys l=some l'→(∀p∈l',Car φ.ρ ρ' p)→ERs φ xs es→ERs (φ.mv m ρ') ys es
 | [],[],l,l',es,h,hc,k=>by simpa only[ERs]using k
 | [],_::_,_,_,_,h,_,_=>by simp[c6c]at h
 |_::_,[],_,_,_,h,_,_=>by simp[c6c]at h
 |(a,b,c)::xs,(a',b',c')::ys,l,l',es,h,hc,k=>by
  simp only[c6c]at h;split at h
  ·rename_i l1 h0 h1;split at h
   ·rename_i l2 h2;have:=Nat.eq_of_beq_eq_true h0;subst this;simp only[ERs]at k ⊢;obtain⟨y,ys',rfl,q1,q2,q3,q4⟩:=k;have c2: ∀p∈l2,Car φ.ρ ρ' p:=fun p hp=>hc p (b5F h p hp);have c1: ∀p∈l1,Car φ.ρ ρ' p:=fun p hp=>c2 p (a9M _ _ _ _ h2 p hp);exact⟨y,ys',rfl,(b3z ha _ _ _ _ _ h1 c1 q1).1,(b3z ha _ _ _ _ _ h2 c2 q2).1,q3,c6b ha h hc q4⟩
   ·cases h
  ·cases h
theorem a6F{e e':Option TypeId}(h:c8a e e'=true): ∀t,e'=some t→e=some t:=by intro t ht;subst ht;simp only[c8a]at h;exact a2O h
theorem b1m{ρ:Rho}: ∀{l:List VV} {vs:List Value},a3S ρ l=some vs→vs.length=l.length
 | [],vs,h=>by simp only[a3S,Option.some.injEq]at h;subst h;rfl
 |x::l,vs,h=>by
  simp only[a3S]at h;split at h
  ·rename_i h1 h2;simp only[Option.some.injEq]at h;subst h;simp only[List.length_cons,b1m h2]
  ·cases h
theorem b1n{ρ:Rho}: ∀{l:List VV} {vs:List Value},a3S ρ l=some vs→ ∀(j:Nat) (x:VV),l[j]? =some x→ ∃v,vs[j]? =some v∧a0g ρ x=some v
 | [],_,_,j,x,hx=>by simp at hx
 |y::l,vs,h,j,x,hx=>by
  simp only[a3S]at h;split at h
  ·rename_i v vs' h1 h2;simp only[Option.some.injEq]at h;subst h;cases j with
   |zero=>cases hx;exact⟨v,rfl,h1⟩
   |succ j=>exact b1n h2 j x hx
  ·cases h
theorem c9U{g:Option Nat}{sz:Nat}(h:d6k g (some sz)=true):g=none∨g=some sz:=by
 cases g with
 |none=>exact .inl rfl
 |some z=>exact .inr (by rw[Nat.eq_of_beq_eq_true (show Nat.beq z sz=true from h)])
theorem c6q{cs ds:List VV}{vs:List Value}(h1:a3S φ.ρ cs=some vs)(h2:a3S ρ' ds=some vs){g:Option Nat}{sz:Nat}(hg:g=none∨g=some sz){et et':Option TypeId}(he: ∀t,et'=some t→et=some t){inf:Inf}{d:Array Value}{e:TypeId}{fr:Nat×Nat}(q:CR φ inf cs g 0 et d e fr):CR (φ.mv m ρ') inf ds (some sz) 0 et' d e fr:=by
 have hl:cs.length=ds.length:=(b1m h1).symm.trans (b1m h2);refine⟨?_,fun h=>(by cases h),fun j y hy=> ?_,q.low,fun t ht=>⟨(q.typ t (he t ht)).1,fun h=>(by cases h)⟩⟩
 ·have:=q.size;rw[←hl];rcases hg with rfl|rfl
  ·rw[q.fixed rfl];simp only[a7R]at this ⊢;omega
  ·exact this
 ·have hj:j<cs.length:=by rw[hl];exact(List.getElem?_eq_some_iff.1 hy).1
  obtain⟨v,e1,e2⟩:=b1n h2 j y hy;obtain⟨x,k1,k2⟩:=q.cell j cs[j] (List.getElem?_eq_getElem hj);obtain⟨v',e3,e4⟩:=b1n h1 j cs[j] (List.getElem?_eq_getElem hj);rw[e1]at e3;cases e3;refine⟨x,k1, ?_⟩;rw[a0q e4 k2];exact a3x e2
theorem d6w(ha:agree N φ.ρ ρ'){o o':VO}{l l':Prs}(h:mvO N m o o' l=some l')(hc: ∀p∈l',Car φ.ρ ρ' p){inf:Inf}{x:Obj}(k:OR φ inf o x):OR (φ.mv m ρ') inf o' x:=by
 unfold mvO at h;split at h
 ·split at h
  ·rename_i c g ro et c' g' ro' et' _ h1 h2 h3;have eg:=a2O h1;subst eg;obtain⟨d,e,fr,rfl,q⟩:=k;have hl:=c2F h;refine⟨d,e,fr,rfl,by rw[←hl];exact q.size,q.fixed,fun j y hy=> ?_,Nat.le_trans q.low (by have:=Nat.le_of_ble_eq_true h2;omega),fun t ht=> ?_⟩
   ·obtain⟨x,hx,g⟩:=c2G ha h hc j y hy;obtain⟨v,v1,v2⟩:=q.cell j x hx;exact⟨v,v1,g v v2⟩
   ·obtain⟨t1,t2⟩:=q.typ t (a6F h3 t ht);exact⟨t1,fun e=>by rw[←hl];exact t2 e⟩
  ·cases h
 ·split at h
  ·rename_i es c es' c' _ h1;have:=Nat.eq_of_beq_eq_true h1;subst this;obtain⟨es2,q1,q2⟩:=k;exact⟨es2,q1,c6b ha h hc q2⟩
  ·cases h
 ·split at h
  ·rename_i c g ro et j n sz tail et' _ h1 h2 h3;have:=Nat.eq_of_beq_eq_true h2;subst this;simp only[Option.some.injEq]at h;subst h;obtain⟨vs,c1,c2,c3,c4⟩:=hc _ List.mem_cons_self;obtain⟨d,e,fr,rfl,q⟩:=k;exact⟨c3,c4,d,e,fr,rfl,c6q c1 c2 (c9U h1) (a6F h3) q⟩
  ·cases h
 ·split at h
  ·rename_i j0 n0 sz0 tail0 et j n sz tail et' _ h1 h3;have:=Nat.eq_of_beq_eq_true h1;subst this;simp only[Option.some.injEq]at h;subst h;obtain⟨vs,c1,c2,c3,c4⟩:=hc _ List.mem_cons_self;obtain⟨_,_,d,e,fr,rfl,q⟩:=k;exact⟨c3,c4,d,e,fr,rfl,c6q c1 c2 (.inr rfl) (a6F h3) q⟩
  ·cases h
 ·split at h
  ·rename_i c et qs et' _ _ bs h3 h4;obtain⟨d,e,fr,rfl,q⟩:=k;obtain⟨g1,_⟩:=c6a ha h hc (a7x (ρ:=φ.ρ) (p:=.string ⟨⟨bs⟩⟩) rfl);have hcl:c=b1J ⟨⟨bs⟩⟩:=c2M h4;rw[hcl]at q;refine⟨_,g1,d,e,fr,rfl,q.size,q.fixed,fun j y hy=> ?_,q.low,fun t ht=>⟨(q.typ t (a6F h3 t ht)).1,fun h=>(by cases h)⟩⟩;obtain⟨v,v1,v2⟩:=q.cell j y hy;refine⟨v,v1, ?_⟩;simp only[b1J,List.getElem?_map,Option.map_eq_some_iff]at hy;obtain⟨u,_,rfl⟩:=hy;simpa only[VR]using v2
  ·cases h
 ·split at h
  ·rename_i ps et qs et' _ h3;obtain⟨s,k1,d,e,fr,rfl,q⟩:=k;obtain⟨g1,_⟩:=c6a ha h hc k1;refine⟨s,g1,d,e,fr,rfl,q.size,q.fixed,fun j y hy=> ?_,q.low,fun t ht=>⟨(q.typ t (a6F h3 t ht)).1,fun h=>(by cases h)⟩⟩;obtain⟨v,v1,v2⟩:=q.cell j y hy;refine⟨v,v1, ?_⟩;simp only[b1J,List.getElem?_map,Option.map_eq_some_iff]at hy;obtain⟨u,_,rfl⟩:=hy;simpa only[VR]using v2
  ·cases h
 ·split at h
  ·rename_i h1;have:=a8z h1;subst this;exact k
  ·cases h
 ·split at h
  ·rename_i h1 h2;have:=a8z h1;subst this;obtain⟨es',c,l2,k1,k2,k3⟩:=k;exact⟨es',c,l2,k1,k2,c8O (fun p hp=>b7c h2 p (k2.mem_iff.1 hp)) k3⟩
  ·cases h
 ·cases h
end
def mvT(N:Nat)(m:TT Nat)(a:VT):List (Nat×VV)→Prs→Option Prs
 | [],l=>some l
 |(t,y)::ys,l=>match mvV N m (a1I a t) y l with
  |some l=>mvT N m a ys l|none=>none
def mvH(N:Nat)(m:TT Nat)(L:TT VO):List (Nat×VO)→Prs→Option Prs
 | [],l=>some l
 |(j,o')::ys,l=>match m.get j with
  |some i=>match L.get i with
   |some o=>match mvO N m o o' l with
    |some l=>mvH N m L ys l|none=>none
   |none=>none
  |none=>none
def d2i(m:TT Nat):List (Nat×VO)→List Nat
 | []=>[]
 |(j,_)::l=>match m.get j with
  |some i=>i::d2i m l|none=>d2i m l
def inN(x:Nat):List Nat→Bool
 | []=>false
 |y::l=>match Nat.beq x y with
  |true=>true|false=>inN x l
def a5b:List Nat→Bool
 | []=>true
 |x::l=>match inN x l with
  |true=>false|false=>a5b l
def e1V:Option VV→Option VV→Bool
 |some _,none=>false|_,_=>true
def mvS(N n:Nat)(m:TT Nat)(a:VT)(L:TT VO)(a':VT)(l':TT VO):Option Prs:=match TT.all2 e1V a a',TT.klt m n,Nat.ble n top,a5b (d2i m (TT.ents l' 1 0 []))with
 |true,true,true,true=>match mvT N m a (TT.ents a' 1 0 []) []with
  |some l=>mvH N m L (TT.ents l' 1 0 []) l|none=>none
 |_,_,_,_=>none
theorem b5K{x:Nat}: ∀{l:List Nat},x∈l→inN x l=true
 | [],h=>by cases h
 |y::l,h=>by
  simp only[inN];rcases List.mem_cons.1 h with rfl|h
  ·simp
  ·split
   ·rfl
   ·exact b5K h
theorem b4f{m:TT Nat}: ∀{l:List (Nat×VO)} {j i:Nat} {o:VO},(j,o)∈l→m.get j=some i→i∈d2i m l
 | [],_,_,_,h,_=>by cases h
 |(j',o')::l,j,i,o,h,hm=>by
  simp only[d2i];rcases List.mem_cons.1 h with e|h
  ·cases e;rw[hm];exact List.mem_cons_self
  ·have:=b4f h hm;split
   ·exact List.mem_cons_of_mem _ this
   ·exact this
theorem b4g{m:TT Nat}: ∀{l:List (Nat×VO)},a5b (d2i m l)=true→ ∀{j j' i:Nat} {o o':VO},(j,o)∈l→(j',o')∈l→m.get j=some i→m.get j'=some i→j=j'
 | [],_,_,_,_,_,_,h,_,_,_=>by cases h
 |(k,p)::l,hn,j,j',i,o,o',h,h',hm,hm'=>by
  simp only[d2i]at hn;rcases List.mem_cons.1 h with e|h
  ·cases e;rcases List.mem_cons.1 h' with e'|h'
   ·cases e';rfl
   ·rw[hm]at hn;simp only[a5b]at hn;rw[b5K (b4f h' hm')]at hn;cases hn
  ·rcases List.mem_cons.1 h' with e'|h'
   ·cases e';rw[hm']at hn;simp only[a5b]at hn;rw[b5K (b4f h hm)]at hn;cases hn
   ·refine b4g (l:=l) ?_ h h' hm hm';split at hn
    ·simp only[a5b]at hn;split at hn
     ·cases hn
     ·exact hn
    ·exact hn
section
variable{φ:Phi}{N:Nat}{m:TT Nat}{ρ':Rho}
theorem c6Y{a:VT}: ∀{ys:List (Nat×VV)} {l l':Prs},mvT N m a ys l=some l'→ ∀p∈l,p∈l'
 | [],l,l',h=>by simp only[mvT,Option.some.injEq]at h;subst h;exact fun p hp=>hp
 |(t,y)::ys,l,l',h=>by
  simp only[mvT]at h;split at h
  ·rename_i l1 h1;exact fun p hp=>c6Y h p (a9M _ _ _ _ h1 p hp)
  ·cases h
theorem c6Z(ha:agree N φ.ρ ρ'){a:VT}: ∀{ys:List (Nat×VV)} {l l':Prs},mvT N m a ys l=some l'→(∀p∈l',Car φ.ρ ρ' p)→ ∀t y,(t,y)∈ys→ ∀v,VR φ (a1I a t) v→VR (φ.mv m ρ') y v
 | [],_,_,_,_,_,_,hm,_,_=>by cases hm
 |(t,y)::ys,l,l',h,hc,t',y',hm,v,k=>by
  simp only[mvT]at h;split at h
  ·rename_i l1 h1;rcases List.mem_cons.1 hm with e|hm
   ·cases e;exact(b3z ha _ _ _ _ _ h1 (fun p hp=>hc p (c6Y h p hp)) k).1
   ·exact c6Z ha h hc t' y' hm v k
  ·cases h
theorem b5E{L:TT VO}: ∀{ys:List (Nat×VO)} {l l':Prs},mvH N m L ys l=some l'→ ∀p∈l,p∈l'
 | [],l,l',h=>by simp only[mvH,Option.some.injEq]at h;subst h;exact fun p hp=>hp
 |(j,o')::ys,l,l',h=>by
  simp only[mvH]at h;split at h
  ·split at h
   ·split at h
    ·rename_i l1 h1;exact fun p hp=>b5E h p (d3Y h1 p hp)
    ·cases h
   ·cases h
  ·cases h
theorem b2N(ha:agree N φ.ρ ρ'){L:TT VO}: ∀{ys:List (Nat×VO)} {l l':Prs},mvH N m L ys l=some l'→(∀p∈l',Car φ.ρ ρ' p)→ ∀j o',(j,o')∈ys→ ∃i o,m.get j=some i∧L.get i=some o∧ ∀inf x,OR φ inf o x→OR (φ.mv m ρ') inf o' x
 | [],_,_,_,_,_,_,hm=>by cases hm
 |(j,o')::ys,l,l',h,hc,j',p',hm=>by
  simp only[mvH]at h;split at h
  ·rename_i i hi;split at h
   ·rename_i o ho;split at h
    ·rename_i l1 h1;rcases List.mem_cons.1 hm with e|hm
     ·cases e;exact⟨i,o,hi,ho,fun inf x k=>d6w ha h1 (fun p hp=>hc p (b5E h p hp)) k⟩
     ·exact b2N ha h hc j' p' hm
    ·cases h
   ·cases h
  ·cases h
end
theorem RS.move[Ext]{w0:World}{ρ ρ':Rho}{sz N n:Nat}{m:TT Nat}{a₁ a':VT}{H₁:VH}{l':TT VO}{ps:Prs}{E':Env}{act:Act}{w:World}(k:RS w0 (· =ρ) sz a₁ H₁ act w)(hs:mvS N n m a₁ H₁.locs a' l'=some ps)(hb:E'.blk=H₁.base.blk)
  (ha:agree N ρ ρ') (hc: ∀p∈ps,Car ρ ρ' p) (hE: ∀φ:Phi,φ.ρ=ρ'→EnvOK E' φ w0):RS w0 (· =ρ') sz a' ⟨E',l',n⟩ act w:=by
 obtain⟨φ,k1,k2,k3,k4,k5,rs,m1,m2,m3⟩:=k;subst k1;unfold mvS at hs;split at hs
 ·rename_i s1 s2 s3 s4;split at hs
  ·rename_i l s5
   have hl: ∀{j o},l'.get j=some o→(j,o)∈TT.ents l' 1 0 []:=fun{j o} h=>by have:=TT.ents_mem (a:=1) (b:=0) (l:=[]) h;simpa only[Nat.one_mul,Nat.add_zero]using this
   have ht: ∀{t y},a'.get t=some y→(t,y)∈TT.ents a' 1 0 []:=fun{t y} h=>by have:=TT.ents_mem (a:=1) (b:=0) (l:=[]) h;simpa only[Nat.one_mul,Nat.add_zero]using this
   have cl: ∀p∈l,Car φ.ρ ρ' p:=fun p hp=>hc p (b5E hs p hp);refine⟨φ.mv m ρ',rfl,fun t=> ?_,⟨hE _ rfl,fun r b h=>k3.base r b (by rw[←hb];exact h),k3.old,fun i inf hi=> ?_,Nat.le_of_ble_eq_true s3,fun j o hj=> ?_,fun i j oi oj inf jnf hi hj h1 h2 h3=> ?_,fun j hj=> ?_,fun i inf hi=> ?_⟩,k4,k5,rs,m1,m2,fun r hr=> ?_⟩
   ·have kt:=k2 t;have:=TT.all2_get (p:=e1V) rfl s1 t;cases hy:a'.get t with
    |none=>
     have hx:a₁.get t=none:=by
      rw[hy]at this;cases hx:a₁.get t with
      |none=>rfl
      |some x=>rw[hx]at this;cases this
     unfold a1I at kt ⊢;rw[hx]at kt;rw[hy];exact b3y (by rfl) kt
    |some y=>
     have e:a1I a' t=y:=by unfold a1I;rw[hy]
     rw[e];exact c6Z ha s5 cl t y (ht hy) _ kt
   ·obtain⟨i',_,h2⟩:=Phi.mv_of hi;exact k3.own i' inf h2
   ·obtain⟨i,o1,g1,g2,g3⟩:=b2N ha hs hc j o (hl hj);obtain⟨inf,x,h1,h2,h3,h4⟩:=k3.live i o1 g2;exact⟨inf,x,by rw[Phi.mv_at g1];exact h1,h2,g3 inf x h3,by show E'.blk inf.blk=none;rw[hb];exact h4⟩
   ·obtain⟨i1,o1,g1,g2,_⟩:=b2N ha hs hc i oi (hl hi);obtain⟨j1,o2,g3,g4,_⟩:=b2N ha hs hc j oj (hl hj);rw[Phi.mv_at g1]at h1;rw[Phi.mv_at g3]at h2;have:=k3.inj i1 j1 o1 o2 inf jnf g2 g4 h1 h2 h3;subst this;exact b4g s4 (hl hi) (hl hj) g1 g3
   ·show(match m.get j with|some i=>φ i|none=>none)=none;cases hm:m.get j with
    |none=>rfl
    |some i=>have:j<n:=TT.klt_get s2 hm;have hj':n≤j:=hj;omega
   ·obtain⟨i',_,h2⟩:=Phi.mv_of hi;exact k3.bound i' inf h2
   ·obtain⟨q1,q2,q3,q4,q5⟩:=m3 r hr;exact⟨q1,q2,fun i inf hi=>let ⟨i',_,h2⟩:=Phi.mv_of hi;q3 i' inf h2,q4,by show E'.blk r=none;rw[hb];exact q5⟩
  ·cases hs
 ·cases hs
def fmB:VB→VB→TT Nat→TT Nat
 |.loc i,.loc j,m=>match m.get j with
  |some _=>m|none=>m.put j i
 |_,_,m=>m
mutual
def fmV:VV→VV→TT Nat→TT Nat
 |.iface _ x,y,m=>match y with
  |.iface _ z=>fmV x z m|_=>m
 |.func _ xs cs,y,m=>match y with
  |.func _ ys ds=>fmVs cs ds (fmVs xs ys m)|_=>m
 |.agg xs,y,m=>match y with
  |.agg ys=>fmVs xs ys m|_=>m
 |.tuple xs,y,m=>match y with
  |.tuple ys=>fmVs xs ys m|_=>m
 |x,y,m=>match x,y with
  |.ptr (some a),.ptr (some b)=>fmB a.b b.b m|.slice (some a) _ _,.slice (some b) _ _=>fmB a.b b.b m|.map (some a),.map (some b)=>fmB a b m|.lsl a _ _,.lsl b _ _=>fmB (.loc a) (.loc b) m|.slice (some a) _ _,.lsl b _ _=>fmB a.b (.loc b) m|.tsl a _,.tsl b _=>fmB (.loc a) (.loc b) m|.slice (some a) _ _,.tsl b _=>fmB a.b (.loc b) m|_,_=>m
def fmVs:List VV→List VV→TT Nat→TT Nat
 | [],_,m=>m
 |x::xs,ys,m=>match ys with
  |y::ys=>fmVs xs ys (fmV x y m)| []=>m
end
def e3D:List (VV×VV×Nat)→List (VV×VV×Nat)→TT Nat→TT Nat
 |(_,x,_)::xs,(_,y,_)::ys,m=>e3D xs ys (fmV x y m)|_,_,m=>m
def fmO:VO→VO→TT Nat→TT Nat
 |.cells c _ _ _,.cells d _ _ _,m=>fmVs c d m|.map c _,.map d _,m=>e3D c d m|_,_,m=>m
def fmT(a:VT):List (Nat×VV)→TT Nat→TT Nat
 | [],m=>m|(t,y)::ys,m=>fmT a ys (fmV (a1I a t) y m)
def fmH(L:TT VO):List (Nat×VO)→TT Nat→TT Nat
 | [],m=>m
 |(j,o')::ys,m=>match m.get j with
  |some i=>match L.get i with
   |some o=>fmH L ys (fmO o o' m)|none=>fmH L ys m
  |none=>fmH L ys m
def e1f(a:VT)(L:TT VO)(a':VT)(l':TT VO):TT Nat:=
 let es:=TT.ents l' 1 0 []
 fmH L es (fmH L es (fmH L es (fmT a (TT.ents a' 1 0 []) .lf)))
end
end Go.Ev
