/-
  Stable sorting, plain: classes of alike, sorted lists, rotations, merging.
-/
import Derived.Sort.LotA
namespace Go.Proofs.Ytcblehiddfnafaa.canonSame
open Go.Sort
variable{α:Type}[Inhabited α]
def eqv(lt:α→α→Bool)(x y:α):Bool:= !lt x y&& !lt y x
def Stb(lt:α→α→Bool)(l l':List α):Prop:= ∀x,l.filter (eqv lt x)=l'.filter (eqv lt x)
def Srt(lt:α→α→Bool)(l:List α):Prop:=l.Pairwise fun x y=>lt y x=false
section
variable{lt:α→α→Bool}
omit [Inhabited α]
theorem b1F(h: ∀x,lt x x=false)(x:α):eqv lt x x=true:=by simp[eqv,h]
theorem b5L{x y:α}(h:eqv lt x y=true):lt x y=false∧lt y x=false:=by
 simpa[eqv]using h
theorem Stb.refl(l:List α):Stb lt l l:=fun _=>rfl
theorem Stb.symm{l m:List α}(h:Stb lt l m):Stb lt m l:=fun x=>(h x).symm
theorem Stb.trans{l m n:List α}(h:Stb lt l m)(k:Stb lt m n):Stb lt l n:=fun x=>(h x).trans (k x)
theorem Stb.app{l l' m m':List α}(h:Stb lt l l')(k:Stb lt m m'):Stb lt (l++m) (l'++m'):=fun x=>by
 rw[List.filter_append,List.filter_append,h x,k x]
theorem Stb.mem(hi: ∀x,lt x x=false){l m:List α}(h:Stb lt l m){x:α}(hx:x∈m):x∈l:=by
 have:x∈m.filter (eqv lt x):=List.mem_filter.2 ⟨hx,b1F hi x⟩
 rw[←h x]at this
 exact(List.mem_filter.1 this).1
theorem a6f{p:α→Bool}{l:List α}(h: ∀x∈l,p x=false):l.filter p= []:=by
 rw[List.filter_eq_nil_iff]
 intro x hx
 simp[h x hx]
theorem Stb.swap(hS: ∀x y z,lt x y=false→lt y z=false→lt x z=false){X Y:List α}(h: ∀x∈X,∀y∈Y,lt y x=true):Stb lt (X++Y) (Y++X):=fun z=>by
 rw[List.filter_append,List.filter_append]
 by_cases hx: ∃x∈X,eqv lt z x=true
 ·obtain⟨x,h1,h2⟩:=hx
  have:Y.filter (eqv lt z)= []:=a6f fun y hy=>by
   cases he:eqv lt z y with
   |false=>rfl
   |true=>
    have a1:=b5L h2
    have a2:=b5L he
    have:=hS y z x a2.2 a1.1
    rw[h x h1 y hy]at this
    cases this
  rw[this]
  simp
 ·have:X.filter (eqv lt z)= []:=a6f fun x hx'=>by
   cases he:eqv lt z x with
   |false=>rfl
   |true=>exact absurd ⟨x,hx',he⟩ hx
  rw[this]
  simp
theorem Srt.nil:Srt lt ([]:List α):=List.Pairwise.nil
theorem b0s(hi: ∀x,lt x x=false): ∀{l m:List α},Srt lt l→Srt lt m→Stb lt l m→l=m
 | [],[],_,_,_=>rfl
 | [],y::m,_,_,h=>by
  have:=h.mem hi (x:=y) List.mem_cons_self
  cases this
 |x::l,[],_,_,h=>by
  have:=h.symm.mem hi (x:=x) List.mem_cons_self
  cases this
 |x::l,y::m,h1,h2,h=>by
  have a1:=List.pairwise_cons.1 h1
  have a2:=List.pairwise_cons.1 h2
  have b1:lt x y=false:=by
   have:=h.symm.mem hi (x:=x) List.mem_cons_self
   rcases List.mem_cons.1 this with rfl|this
   ·exact hi _
   ·exact a2.1 x this
  have b2:lt y x=false:=by
   have:=h.mem hi (x:=y) List.mem_cons_self
   rcases List.mem_cons.1 this with rfl|this
   ·exact hi _
   ·exact a1.1 y this
  have e1:eqv lt x y=true:=by simp[eqv,b1,b2]
  have:=h x
  rw[List.filter_cons,if_pos (b1F hi x),List.filter_cons,if_pos e1]at this
  injection this with e2 e3
  subst e2
  refine congrArg (x:: ·) (b0s hi a1.2 a2.2 fun z=> ?_)
  have hz:=h z
  rw[List.filter_cons,List.filter_cons]at hz
  split at hz
  ·injection hz
  ·exact hz
end
def seg(d:Array α)(a b:Nat):List α:=(List.range' a (b-a)).map fun i=>d[i]!
theorem a2d(d:Array α){a c b:Nat}(h:a≤c)(k:c≤b):seg d a b=seg d a c++seg d c b:=by
 unfold seg
 rw[←List.map_append]
 congr 1
 have:=List.range'_append (s:=a) (m:=c-a) (n:=b-c) (step:=1)
 rw[show a+1*(c-a)=c by omega,show c-a+(b-c)=b-a by omega]at this
 exact this.symm
theorem b5A{d d':Array α}{p r n:Nat}(h: ∀i,i<n→d'[p+i]! =d[r+i]!):seg d' p (p+n)=seg d r (r+n):=by
 unfold seg
 rw[show p+n-p=n by omega,show r+n-r=n by omega,List.range'_eq_map_range,List.range'_eq_map_range,List.map_map,List.map_map]
 apply List.map_congr_left
 intro i hi
 have:=List.mem_range.1 hi
 simp only[Function.comp]
 exact h i this
theorem a7s{d:Array α}{a b:Nat}{x:α}:x∈seg d a b↔ ∃i,a≤i∧i<b∧d[i]! =x:=by
 unfold seg
 rw[List.mem_map]
 constructor
 ·rintro⟨i,hi,rfl⟩
  have:=List.mem_range'_1.1 hi
  exact⟨i,this.1,by omega,rfl⟩
 ·rintro⟨i,h1,h2,rfl⟩
  exact⟨i,List.mem_range'_1.2 ⟨h1,by omega⟩,rfl⟩
theorem b5d{lt:α→α→Bool}{d:Array α}{a b:Nat}(h:SortedIn lt a b d):Srt lt (seg d a b):=by
 unfold seg Srt
 rw[List.pairwise_map]
 have: ∀(n a':Nat),a≤a'→a'+n≤b→(List.range' a' n).Pairwise fun i j=>lt d[j]! d[i]! =false:=by
  intro n
  induction n with
  |zero=>intro a' _ _;exact List.Pairwise.nil
  |succ n ih=>
   intro a' h1 h2
   rw[List.range'_succ]
   refine List.pairwise_cons.2 ⟨fun j hj=> ?_,ih _ (by omega) (by omega)⟩
   have:=List.mem_range'_1.1 hj
   exact h a' j h1 (by omega) (by omega)
 rcases Nat.lt_or_ge a b with hab|hab
 ·exact this _ a (Nat.le_refl _) (by omega)
 ·rw[show b-a=0 by omega]
  exact List.Pairwise.nil
theorem a7g(d:Array α):seg d 0 d.size=d.toList:=by
 apply List.ext_getElem
 ·simp[seg]
 ·intro i h1 h2
  have:i<d.size:=by simpa using h2
  simp[seg,getElem!_pos d i this]
structure StbIn(lt:α→α→Bool)(a b:Nat)(d d':Array α):Prop where
 sz:d'.size=d.size
 out: ∀i,i<a∨b≤i→d'[i]! =d[i]!
 st:Stb lt (seg d a b) (seg d' a b)
section
variable{lt:α→α→Bool}
theorem StbIn.refl(a b:Nat)(d:Array α):StbIn lt a b d d:=⟨rfl,fun _ _=>rfl,.refl _⟩
theorem StbIn.trans{a b:Nat}{d d' d'':Array α}(h:StbIn lt a b d d')(k:StbIn lt a b d' d''):StbIn lt a b d d'':=
 ⟨k.sz.trans h.sz,fun i hi=>(k.out i hi).trans (h.out i hi),h.st.trans k.st⟩
theorem b0v{d d':Array α}{a b:Nat}(h: ∀i,a≤i→i<b→d'[i]! =d[i]!):seg d' a b=seg d a b:=by
 unfold seg
 apply List.map_congr_left
 intro i hi
 have:=List.mem_range'_1.1 hi
 exact h i this.1 (by omega)
theorem StbIn.mono{a b a' b':Nat}{d d':Array α}(h:StbIn lt a b d d')(ha:a'≤a)(hab:a≤b)(hb:b≤b'):StbIn lt a' b' d d':=
 ⟨h.sz,fun i hi=>h.out i (by omega),by
  rw[a2d d ha (Nat.le_trans hab hb),a2d d hab hb,a2d d' ha (Nat.le_trans hab hb),a2d d' hab hb]
  rw[b0v (d:=d) (d':=d') (a:=a') (b:=a) fun i _ hi=>h.out i (.inl hi),b0v (d:=d) (d':=d') (a:=b) (b:=b') fun i hi _=>h.out i (.inr hi)]
  exact(Stb.refl _).app (h.st.app (.refl _))⟩
theorem StbIn.all(hi: ∀x,lt x x=false){a b:Nat}{d d':Array α}(h:StbIn lt a b d d'){p:α→Prop}(hp: ∀i,a≤i→i<b→p d[i]!): ∀i,a≤i→i<b→p d'[i]! :=fun i h1 h2=>by
 obtain⟨k,k1,k2,k3⟩:=a7s.1 (h.st.mem hi (a7s.2 ⟨i,h1,h2,rfl⟩))
 rw[←k3]
 exact hp k k1 k2
theorem b5Z(hS:SWO lt){d:Array α}{a b j:Nat}(h1:a≤j)(h2:j+1<b)(h3:b≤d.size)(hl:lt d[j+1]! d[j]! =true):StbIn lt a b d (swp d (j+1) j):=by
 have e:StbIn lt j (j+2) d (swp d (j+1) j):=by
  refine⟨size_swp _ _ _,fun i hi=>swp_other _ _ _ _ (by omega) (by omega), ?_⟩
  have e1:seg d j (j+2)= [d[j]!,d[j+1]!]:=by simp[seg,List.range']
  have e2:seg (swp d (j+1) j) j (j+2)= [d[j+1]!,d[j]!]:=by
   simp only[seg,show j+2-j=2 by omega,List.range',List.map_cons,List.map_nil,swp_left d (j+1) j (by omega) (by omega),swp_right d (j+1) j (by omega)]
  rw[e1,e2]
  exact Stb.swap hS.ntrans (X:=[d[j]!]) (Y:=[d[j+1]!]) (by simpa using hl)
 exact e.mono h1 (by omega) (by omega)
theorem a5R(hS:SWO lt){a b:Nat}: ∀(j:Nat) (d:Array α),j<b→b≤d.size→StbIn lt a b d (insInner lt a j d)
 |0,d,_,_=>.refl _ _ _
 |j+1,d,h1,h2=>by
  rw[insInner]
  split
  ·rename_i h
   simp only[Bool.and_eq_true,decide_eq_true_eq]at h
   have:=b5Z hS (a:=a) (b:=b) (j:=j) (by omega) h1 h2 h.2
   exact this.trans (a5R hS j _ (by omega) (by rw[size_swp];exact h2))
  ·exact .refl _ _ _
theorem a5Q(hS:SWO lt){a b:Nat}: ∀(n i:Nat) (d:Array α),b-i≤n→b≤d.size→StbIn lt a b d (insOuter lt a b i d)
 |0,i,d,h1,h2=>by
  rw[insOuter,if_neg (by omega)]
  exact .refl _ _ _
 |n+1,i,d,h1,h2=>by
  rw[insOuter]
  split
  ·rename_i h
   have k:=a5R hS (a:=a) (b:=b) i d h h2
   exact k.trans (a5Q hS n (i+1) _ (by omega) (by rw[k.sz];exact h2))
  ·exact .refl _ _ _
theorem b2s(hS:SWO lt){a b:Nat}{d:Array α}(hab:a≤b)(hb:b≤d.size):StbIn lt a b d (insertionSort lt d a b)∧SortedIn lt a b (insertionSort lt d a b):=
 ⟨a5Q hS _ _ _ (Nat.le_refl _) hb,(insertionSort_holds hS d a b hab hb).2⟩
end
def b5Y(a b n x:Nat):Nat:=if a≤x∧x<a+n then b+(x-a)else if b≤x∧x<b+n then a+(x-b)else x
def a9m(p m q x:Nat):Nat:=if x<p then x else if x<p+(q-m)then m+(x-p)else if x<q then p+(x-(p+(q-m)))else x
structure Rot(p m q:Nat)(d d':Array α):Prop where
 sz:d'.size=d.size
 at_: ∀x,d'[x]! =d[a9m p m q x]!
def swr(d:Array α)(a b:Nat):Nat→Array α
 |0=>d
 |i+1=>swp (swr d a b i) (a+i) (b+i)
theorem a2U(d:Array α)(a b:Nat): ∀n,(swr d a b n).size=d.size
 |0=>rfl
 |n+1=>by rw[swr,size_swp,a2U]
theorem a7f(d:Array α){a b:Nat}: ∀{n:Nat},a+n≤b→b+n≤d.size→ ∀x,(swr d a b n)[x]! =d[b5Y a b n x]!
 |0,_,_,x=>by
  have:b5Y a b 0 x=x:=by
   unfold b5Y
   rw[if_neg (by omega),if_neg (by omega)]
  rw[this]
  rfl
 |n+1,h,k,x=>by
  have ih:=a7f d (a:=a) (b:=b) (n:=n) (by omega) (by omega)
  rw[swr,swp_get _ (by rw[a2U];omega) (by rw[a2U];omega)]
  rw[ih,ih,ih]
  unfold b5Y
  repeat' split
  all_goals first|rfl|(congr 1;omega)|(exfalso;omega)
theorem b2V{i j m:Nat}{d d':Array α}(hij:j<i)(hi:i≤m)(hm:m+j≤d.size)(h:Rot (m-i+j) m (m+j) (swr d (m-i) m j) d'):Rot (m-i) m (m+j) d d':=by
 refine⟨h.sz.trans (a2U _ _ _ _),fun x=> ?_⟩
 rw[h.at_,a7f d (by omega) (by omega)]
 congr 1
 unfold b5Y a9m
 repeat' split
 all_goals omega
theorem b2U{i j m:Nat}{d d':Array α}(hij:i<j)(hi:i≤m)(hm:m+j≤d.size)(h:Rot (m-i) m (m+j-i) (swr d (m-i) (m+j-i) i) d'):Rot (m-i) m (m+j) d d':=by
 refine⟨h.sz.trans (a2U _ _ _ _),fun x=> ?_⟩
 rw[h.at_,a7f d (by omega) (by omega)]
 congr 1
 unfold b5Y a9m
 repeat' split
 all_goals omega
theorem b5f{i m:Nat}{d:Array α}(hi:i≤m)(hm:m+i≤d.size):Rot (m-i) m (m+i) d (swr d (m-i) m i):=by
 refine⟨a2U _ _ _ _,fun x=> ?_⟩
 rw[a7f d (by omega) (by omega)]
 congr 1
 unfold b5Y a9m
 repeat' split
 all_goals omega
theorem b0C{lt:α→α→Bool}(hS:SWO lt){p m q:Nat}{d d':Array α}(h:Rot p m q d d')(h1:p≤m)(h2:m≤q)(hl: ∀i j,p≤i→i<m→m≤j→j<q→lt d[j]! d[i]! =true):StbIn lt p q d d':=by
 refine⟨h.sz,fun x hx=> ?_, ?_⟩
 ·rw[h.at_]
  congr 1
  unfold a9m
  repeat' split
  all_goals omega
 ·rw[a2d d h1 h2,a2d d' (c:=p+(q-m)) (by omega) (by omega)]
  have e1:seg d' p (p+(q-m))=seg d m (m+(q-m)):=b5A fun i hi=>by
   rw[h.at_]
   congr 1
   unfold a9m
   repeat' split
   all_goals omega
  have e2:seg d' (p+(q-m)) (p+(q-m)+(m-p))=seg d p (p+(m-p)):=b5A fun i hi=>by
   rw[h.at_]
   congr 1
   unfold a9m
   repeat' split
   all_goals omega
  rw[show m+(q-m)=q by omega]at e1
  rw[show p+(q-m)+(m-p)=q by omega,show p+(m-p)=m by omega]at e2
  rw[e1,e2]
  refine Stb.swap hS.ntrans fun x hx y hy=> ?_
  obtain⟨i,a1,a2,rfl⟩:=a7s.1 hx
  obtain⟨j,b1,b2,rfl⟩:=a7s.1 hy
  exact hl i j a1 a2 b1 b2
section
variable{lt:α→α→Bool}
omit [Inhabited α] in
theorem ltn(hS:SWO lt){x y z:α}(h:lt x y=true)(k:lt z y=false):lt x z=true:=by
 cases e:lt x z with
 |true=>rfl
 |false=>rw[hS.ntrans x z y e k]at h;cases h
omit [Inhabited α] in
theorem b8N(hS:SWO lt){x y z:α}(h:lt x y=true)(k:lt x z=false):lt z y=true:=by
 cases e:lt z y with
 |true=>rfl
 |false=>rw[hS.ntrans x z y k e]at h;cases h
omit [Inhabited α] in
theorem asym(hS:SWO lt){x y:α}(h:lt x y=true):lt y x=false:=by
 cases e:lt y x with
 |false=>rfl
 |true=>have:=hS.trans _ _ _ h e;rw[hS.irrefl]at this;cases this
structure Found(lt:α→α→Bool)(a m b st en:Nat)(d:Array α):Prop where
 h1:a≤st
 h2:st≤m
 h3:m≤en
 h4:en≤b
 hi:a<st→en<b→lt d[en]! d[st-1]! =false
 lo:st<m→m<en→lt d[en-1]! d[st]! =true
variable{a m b st en:Nat}{d:Array α}
theorem Found.lt1(F:Found lt a m b st en d)(hS:SWO lt)(s1:SortedIn lt a m d)(s2:SortedIn lt m b d): ∀i j,st≤i→i<m→m≤j→j<en→lt d[j]! d[i]! =true:=fun i j h1 h2 h3 h4=>by
 have e:=F.lo (by omega) (by omega)
 have k1:lt d[i]! d[st]! =false:=by
  rcases Nat.lt_or_ge st i with h|h
  ·exact s1 st i F.h1 h h2
  ·rw[show i=st by omega];exact hS.irrefl _
 have k2:lt d[en-1]! d[j]! =false:=by
  rcases Nat.lt_or_ge j (en-1)with h|h
  ·exact s2 j (en-1) h3 h (by have:=F.h4;omega)
  ·rw[show j=en-1 by omega];exact hS.irrefl _
 exact b8N hS (ltn hS e k1) k2
theorem Found.ge1(F:Found lt a m b st en d)(hS:SWO lt)(s1:SortedIn lt a m d)(s2:SortedIn lt m b d): ∀i j,a≤i→i<st→en≤j→j<b→lt d[j]! d[i]! =false:=fun i j h1 h2 h3 h4=>by
 have e:=F.hi (by omega) (by omega)
 have k1:lt d[st-1]! d[i]! =false:=by
  rcases Nat.lt_or_ge i (st-1)with h|h
  ·exact s1 i (st-1) h1 h (by have:=F.h2;omega)
  ·rw[show i=st-1 by omega];exact hS.irrefl _
 have k2:lt d[j]! d[en]! =false:=by
  rcases Nat.lt_or_ge en j with h|h
  ·exact s2 en j F.h3 h h4
  ·rw[show j=en by omega];exact hS.irrefl _
 exact hS.ntrans _ _ _ (hS.ntrans _ _ _ k2 e) k1
theorem Found.rot(F:Found lt a m b st en d)(hS:SWO lt)(s1:SortedIn lt a m d)(s2:SortedIn lt m b d){d':Array α}(R:Rot st m en d d'){c:Nat}(hc:c=st+(en-m)):
  StbIn lt a b d d'∧SortedIn lt a st d'∧SortedIn lt st c d'∧SortedIn lt c en d'∧SortedIn lt en b d'∧ ∀i j,a≤i→i<c→c≤j→j<b→lt d'[j]! d'[i]! =false:=by
 have f1:=F.h1
 have f2:=F.h2
 have f3:=F.h3
 have f4:=F.h4
 have o:=R.at_
 have p1: ∀x,x<st→d'[x]! =d[x]! :=fun x hx=>by
  rw[o]
  congr 1
  unfold a9m
  repeat' split
  all_goals omega
 have p2: ∀x,st≤x→x<c→d'[x]! =d[m+(x-st)]! :=fun x hx hx2=>by
  rw[o]
  congr 1
  unfold a9m
  repeat' split
  all_goals omega
 have p3: ∀x,c≤x→x<en→d'[x]! =d[st+(x-c)]! :=fun x hx hx2=>by
  rw[o]
  congr 1
  unfold a9m
  repeat' split
  all_goals omega
 have p4: ∀x,en≤x→d'[x]! =d[x]! :=fun x hx=>by
  rw[o]
  congr 1
  unfold a9m
  repeat' split
  all_goals omega
 have l1:=F.lt1 hS s1 s2
 have g1:=F.ge1 hS s1 s2
 refine⟨(b0C hS R f2 f3 l1).mono f1 (by omega) f4,fun i j h1 h2 h3=> ?_,fun i j h1 h2 h3=> ?_,fun i j h1 h2 h3=> ?_,fun i j h1 h2 h3=> ?_,fun i j h1 h2 h3 h4=> ?_⟩
 ·rw[p1 i (by omega),p1 j h3]
  exact s1 i j h1 h2 (by omega)
 ·rw[p2 i h1 (by omega),p2 j (by omega) h3]
  exact s2 _ _ (by omega) (by omega) (by omega)
 ·rw[p3 i h1 (by omega),p3 j (by omega) h3]
  exact s1 _ _ (by omega) (by omega) (by omega)
 ·rw[p4 i h1,p4 j (by omega)]
  exact s2 i j (by omega) h2 h3
 ·rcases Nat.lt_or_ge i st with hi|hi
  ·rw[p1 i hi]
   rcases Nat.lt_or_ge j en with hj|hj
   ·rw[p3 j h3 hj]
    exact s1 _ _ h1 (by omega) (by omega)
   ·rw[p4 j hj]
    exact g1 i j h1 hi hj h4
  ·rw[p2 i hi h2]
   rcases Nat.lt_or_ge j en with hj|hj
   ·rw[p3 j h3 hj]
    exact asym hS (l1 _ _ (by omega) (by omega) (by omega) (by omega))
   ·rw[p4 j hj]
    exact s2 _ _ (by omega) (by omega) (by omega)
theorem b1Z(hS:SWO lt){a b c:Nat}{d d' d'':Array α}(h:StbIn lt a c d d')(k:StbIn lt c b d' d'')(hx: ∀i j,a≤i→i<c→c≤j→j<b→lt d[j]! d[i]! =false): ∀i j,a≤i→i<c→c≤j→j<b→lt d''[j]! d''[i]! =false:=by
 have e1: ∀i j,a≤i→i<c→c≤j→j<b→lt d'[j]! d'[i]! =false:=fun i j h1 h2 h3 h4=>by
  rw[h.out j (by omega)]
  exact h.all hS.irrefl (p:=fun x=>lt d[j]! x=false) (fun i h1 h2=>hx i j h1 h2 h3 h4) i h1 h2
 intro i j h1 h2 h3 h4
 rw[k.out i (by omega)]
 exact k.all hS.irrefl (p:=fun y=>lt y d'[i]! =false) (fun j h3 h4=>e1 i j h1 h2 h3 h4) j h3 h4
theorem b5H(hS:SWO lt){a b c:Nat}{d d' d'':Array α}(hac:a≤c)(hcb:c≤b)(h:StbIn lt a c d d')(s1:SortedIn lt a c d')(k:StbIn lt c b d' d'')(s2:SortedIn lt c b d'')(hx: ∀i j,a≤i→i<c→c≤j→j<b→lt d[j]! d[i]! =false):StbIn lt a b d d''∧SortedIn lt a b d'':=by
 have e:=b1Z hS h k hx
 refine⟨(h.mono (Nat.le_refl _) hac hcb).trans (k.mono hac hcb (Nat.le_refl _)),fun i j h1 h2 h3=> ?_⟩
 rcases Nat.lt_or_ge j c with hj|hj
 ·rw[k.out i (by omega),k.out j (by omega)]
  exact s1 i j h1 h2 hj
 ·rcases Nat.lt_or_ge i c with hi|hi
  ·exact e i j h1 hi hj h3
  ·exact s2 i j hi h2 h3
end
end Go.Proofs.Ytcblehiddfnafaa.canonSame
