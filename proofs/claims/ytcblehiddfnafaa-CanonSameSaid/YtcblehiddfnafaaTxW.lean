/-
  Chapter 28: Copy of this program; changes of lists of one's own.
-/
import Derived.Test.YtcblehiddfnafaaTxV
import Derived.Test.YtcblehiddfnafaaTxU
namespace Go.Proofs.Ytcblehiddfnafaa.canonSame
open Go.Shelf Go.RowKit Go.Lib Go.Sort
theorem a7h{t k n:Nat}{X:List Value}{W:World}{e:Ending}{w':World}(h: ∃lv,e= .returned lv∧w'.ownsRow W.heap.size t k lv n X∧Below W.heap.size W w'): ∃a c,e= .returned (.slice a n c)∧Aside (Rw W.heap.size w'.heap.size t k (.slice a n c) n X w'∧Below W.heap.size W w'):=by
 obtain⟨lv,rfl,ho,hb⟩:=h
 obtain⟨a,c,rfl⟩:=a0o ho
 exact⟨a,c,rfl,.of ho,hb⟩
theorem b5j{α β:Type}{e1 k e2 m:Nat}{f:α→Value→List Value}{inn:α→List β}{g:β→List Value}{xs:List α}{W:World}{e:Ending}{w':World}(h: ∃lv,e= .returned lv∧ ∃T,T.map (·.2)=xs∧Nd W W.heap.size e1 k e2 m lv T f inn g w'): ∃a c,e= .returned (.slice a xs.length c)∧Aside (∃T,T.map (·.2)=xs∧Pr W.heap.size w'.heap.size e1 k e2 m (.slice a xs.length c) T f inn g w'∧Below W.heap.size W w'):=by
 obtain⟨lv,rfl,T,rfl,hN⟩:=h
 obtain⟨a,c,rfl⟩:=a0o hN.n.i.o
 exact⟨a,c,by rw[List.length_map],T,rfl,by rw[List.length_map];exact hN.pr,hN.n.i.b⟩
theorem a4w{α β:Type}{e1 k e2 m:Nat}{f:α→Value→List Value}{inn:α→List β}{g:β→List Value}{xs:List α}{W:World}{e:Ending}{w':World}(h: ∃lv,e= .returned lv∧ ∃T,T.map (·.2)=xs∧Nd W W.heap.size e1 k e2 m lv T f inn g w'): ∃a c,e= .returned (.slice a xs.length c)∧Aside (∃T,T.map (·.2)=xs∧Pt W.heap.size w'.heap.size e1 k e2 m (.slice a xs.length c) T f inn g w'∧Below W.heap.size W w'):=by
 obtain⟨lv,rfl,T,rfl,hN⟩:=h
 obtain⟨a,c,rfl⟩:=a0o hN.n.i.o
 exact⟨a,c,by rw[List.length_map],T,rfl,by rw[List.length_map];exact hN.pt,hN.n.i.b⟩
theorem sm{n:Nat}(h:n≤900):n≤maxLen∧n*1000≤140737488355328:=⟨by unfold maxLen;omega,by omega⟩
theorem b7X: ∀(ia:Option Addr) (l:List Int) (ic:Nat) (w:World) (_:l.length≤maxLen) (_:l.length*1000≤140737488355328) (lo hh:Nat) (_:hh≤w.heap.size) (_:RowsI lo hh w ia 1 (l.map fun n=> #[Value.int .i64 n])),Calls Try.prog 63 #[.slice ia l.length ic] w fun e w'=> ∃lv,e= .returned lv∧w'.ownsRow w.heap.size 3 1 lv l.length (l.flatMap fun n=>[.int .i64 n])∧Below w.heap.size w w':=
 fun ia l ic w h1 h2 _ _ h3 h4=>b2C a1L Try.func63 b5I ia l ic w h1 h2 h3 h4
theorem b8B: ∀(ia:Option Addr) (l:List (Int×Int)) (ic:Nat) (w:World) (_:l.length≤maxLen) (_:l.length*1000≤140737488355328) (lo hh:Nat) (_:hh≤w.heap.size) (_:RowsI lo hh w ia 2 (l.map fun x=>((fun p:Int×Int=>[Value.int .i64 p.1,.int .i64 p.2]) x).toArray)),Calls Try.prog 66 #[.slice ia l.length ic] w fun e w'=> ∃lv,e= .returned lv∧w'.ownsRow w.heap.size 45 2 lv l.length (l.flatMap (fun p:Int×Int=>[Value.int .i64 p.1,.int .i64 p.2]))∧Below w.heap.size w w':=
 fun ia l ic w h1 h2 _ _ h3 h4=>b0j a1L Try.func66 b4g ia l ic w h1 h2 h3 h4
theorem b9m: ∀(ia:Option Addr) (l:List Efd) (ic:Nat) (w:World) (_:l.length≤maxLen) (_:l.length*32≤140737488355328) (lo hh:Nat) (_:hh≤w.heap.size) (_:RowsI lo hh w ia 4 (l.map fun x=>(efV x).toArray)),Calls Try.prog 76 #[.slice ia l.length ic] w fun e w'=> ∃lv,e= .returned lv∧w'.ownsRow w.heap.size 97 4 lv l.length (l.flatMap efV)∧Below w.heap.size w w':=
 fun ia l ic w h1 h2 _ _ h3 h4=>b2D a1L Try.func76 b7P ia l ic w h1 h2 h3 h4
theorem b4G(A:Lcs)(S:Std)(w:World)(hB:Bd S){lo hh:Nat}(hhh:hh≤w.heap.size)(hI:StI lo hh w A S):
  Calls Try.prog 33 #[.agg (stV A S).toArray] w fun e w'=> ∃O,e= .returned (.agg (ovV O S).toArray)∧O.st S=S∧ ∃N,Asc N∧w.heap.size≤N 0∧N 10≤w'.heap.size∧OwI N O w'∧Below w.heap.size w w':=by
 have kp: ∀W,Below w.heap.size w W→Kp lo hh w W:=fun W h=>(Kp.below h lo).mono (Nat.le_refl _) hhh
 have e61:=enters_of Try.func61 (by kernel_rfl) rfl
 have e65:=enters_of Try.func65 (by kernel_rfl) rfl
 have e63:=enters_of Try.func63 (by kernel_rfl) rfl
 have e66:=enters_of Try.func66 (by kernel_rfl) rfl
 refine b0H a1L (by decide) rfl rfl Try.func33 (enters_of Try.func59 (by kernel_rfl) rfl) (enters_of Try.func60 (by kernel_rfl) rfl) (enters_of Try.func62 (by kernel_rfl) rfl) e63 (enters_of Try.func64 (by kernel_rfl) rfl) e66 A S w ?_ ?_ ?_ ?_ ?_ ?_ ?_ ?_ ?_ ?_
 ·exact fun W h=>(b3X a1L Try.func59 b7Q A.p.a S.pl A.p.c W (sm hB.pl).1 (sm hB.pl).2 (Nat.le_trans hhh h.size) (hI.p.kp (kp W h))).mono fun _ _=>a7h
 ·exact fun W h=>(a8W a1L rfl rfl Try.func60 e61 b5y (fun x ia ic w h1 h2 lo hh h3 h4=>a8r a1L rfl rfl Try.func61 (enters_of Try.func76 (by kernel_rfl) rfl) b9m x ia ic w h1 h2 h3 h4) A.o S.obs W hB.obs hB.effs (Nat.le_trans hhh h.size) (hI.o.kp (kp W h))).mono fun _ _=>b5j
 ·exact fun W h=>(a1q a1L Try.func62 e63 b0R b7X A.l S.libs W hB.libs.1 hB.libs.2 (Nat.le_trans hhh h.size) (hI.l.kp (kp W h))).mono fun _ _=>a4w
 ·exact fun W h=>(a1q a1L Try.func62 e63 b0R b7X A.h S.hands W hB.hands.1 hB.hands.2 (Nat.le_trans hhh h.size) (hI.h.kp (kp W h))).mono fun _ _=>a4w
 ·exact fun W h=>(a1q a1L Try.func62 e63 b0R b7X A.g S.graves W hB.graves.1 hB.graves.2 (Nat.le_trans hhh h.size) (hI.g.kp (kp W h))).mono fun _ _=>a4w
 ·exact fun W h=>(a1q a1L Try.func62 e63 b0R b7X A.x S.exiles W hB.exiles.1 hB.exiles.2 (Nat.le_trans hhh h.size) (hI.x.kp (kp W h))).mono fun _ _=>a4w
 ·exact fun W h=>(b7X A.f.a S.field A.f.c W (sm hB.field).1 (sm hB.field).2 _ _ (Nat.le_trans hhh h.size) (hI.f.kp (kp W h))).mono fun _ _=>a7h
 ·exact fun W h=>(a3y a1L rfl rfl Try.func64 e65 a9K (fun x ia ic w h1 h2 lo hh h3 h4=>a4W a1L rfl rfl Try.func65 e66 b8B x ia ic w h1 h2 h3 h4) A.s S.stack W hB.stack.1 (fun x hx=>sm (hB.stack.2 x hx)) (Nat.le_trans hhh h.size) (hI.s.kp (kp W h))).mono fun _ _=>a4w
 ·exact fun W h=>(a3y a1L rfl rfl Try.func64 e65 a9K (fun x ia ic w h1 h2 lo hh h3 h4=>a4W a1L rfl rfl Try.func65 e66 b8B x ia ic w h1 h2 h3 h4) A.w S.waits W hB.waits.1 (fun x hx=>sm (hB.waits.2 x hx)) (Nat.le_trans hhh h.size) (hI.wt.kp (kp W h))).mono fun _ _=>a4w
 ·exact fun W h=>(b8B A.t.a S.cast.ts A.t.c W (sm hB.ts).1 (sm hB.ts).2 _ _ (Nat.le_trans hhh h.size) (hI.t.kp (kp W h))).mono fun _ _=>a7h
theorem b4i{α:Type}{F:α→List Value}{k:Nat}(hF: ∀x,(F x).length=k)(A B:List α){p p':α}{j:Nat}(hj:j<k){u:Value}(h:(F p).set j u=F p'):((A++p::B).flatMap F).set (A.length*k+j) u=(A++p'::B).flatMap F:=by
 have hl:=a1W hF A
 rw[List.flatMap_append,List.flatMap_append,List.set_append_right _ _ (by omega),hl,show A.length*k+j-A.length*k=j by omega]
 congr 1
 rw[List.flatMap_cons,List.flatMap_cons,List.set_append_left _ _ (by rw[hF];exact hj),h]
theorem a4e{α:Type}{F:α→List Value}{k:Nat}(hF: ∀x,(F x).length=k)(A B:List α){p:α}{j:Nat}(hj:j<k):((A++p::B).flatMap F)[A.length*k+j]? =(F p)[j]? :=by
 have:=a5B hF (A++p::B) A.length j (by simp) hj
 rw[this]
 simp
theorem Pr.store{α β:Type}{lo hi e1 k e2 m g n c:Nat}{f:α→Value→List Value}{inn:α→List β}{gg:β→List Value}{W:World}{A B:List (Value×α)}{v:Value}{x x':α}(h:Pr lo hi e1 k e2 m (.slice (some ⟨g,0,none⟩) n c) (A++(v,x)::B) f inn gg W)(he:e2≠e1)(hn:n=(A++(v,x)::B).length)(hf: ∀x v,(f x v).length=k){j:Nat}(hj:j<k){u:Value}(hx:(f x v).set j u=f x' v)(ht:inn x'=inn x):
  Pr lo hi e1 k e2 m (.slice (some ⟨g,0,none⟩) n c) (A++(v,x')::B) f inn gg (W.setCell ⟨g,A.length*k+j,none⟩ u)∧Chg lo hi W (W.setCell ⟨g,A.length*k+j,none⟩ u):=by
 subst hn
 obtain⟨a,b⟩:=h.r.o.stored (A.length*k+j) u
 rw[b4i (F:=fun p:Value×α=>f p.2 p.1) (fun p=>hf _ _) A B (p':=(v,x')) hj hx]at a
 have gb:=h.r.o.lt g rfl
 have hl:(A++(v,x)::B).length=(A++(v,x')::B).length:=by simp
 refine⟨⟨⟨by rw[←hl];exact a,h.r.h⟩,fun p hp=> ?_⟩,Chg.grown b fun q hq=> ?_⟩
 ·have key:Rw lo hi e2 m p.1 (inn p.2).length ((inn p.2).flatMap gg) W:=by
   rcases List.mem_append.1 hp with hp|hp
   ·exact h.e p (List.mem_append_left _ hp)
   ·rcases List.mem_cons.1 hp with rfl|hp
    ·show Rw lo hi e2 m v (inn x').length ((inn x').flatMap gg) W
     rw[ht]
     exact h.e (v,x) (by simp)
    ·exact h.e p (List.mem_append_right _ (List.mem_cons_of_mem _ hp))
  exact⟨key.o.kept b (a0p he key.o h.r.o),key.h⟩
 ·have hq:some q=some g:=hq.symm
  injection hq with hq
  subst hq
  exact⟨gb.1,h.r.h _ rfl⟩
theorem Pt.inner{α β:Type}{lo hi e1 k e2 m:Nat}{lv:Value}{f:α→Value→List Value}{inn:α→List β}{gg:β→List Value}{W W':World}{A B:List (Value×α)}{v:Value}{x x':α}(h:Pt lo hi e1 k e2 m lv (A++(v,x)::B) f inn gg W)(he:e2≠e1)(hx: ∀v,f x' v=f x v)(_hl:(inn x').length=(inn x).length)(o:W'.ownsRow lo e2 m v (inn x').length ((inn x').flatMap gg))(g:W.grownBy W' v.ownBlock):
  Pt lo hi e1 k e2 m lv (A++(v,x')::B) f inn gg W'∧Chg lo hi W W':=by
 have hv:=h.q.e (v,x) (by simp)
 have hL:(A++(v,x)::B).length=(A++(v,x')::B).length:=by simp
 have hp:=h.p
 rw[List.pairwise_append,List.pairwise_cons]at hp
 refine⟨⟨⟨?_,fun p hp'=> ?_⟩, ?_⟩,Chg.grown g fun q hq=>⟨(hv.o.lt q hq).1,hv.h q hq⟩⟩
 ·have:=h.q.r.o.kept g (a0p (fun e=>he e.symm) h.q.r.o hv.o)
  have e:((A++(v,x')::B).flatMap fun p=>f p.2 p.1)=(A++(v,x)::B).flatMap fun p=>f p.2 p.1:=by
   rw[List.flatMap_append,List.flatMap_append,List.flatMap_cons,List.flatMap_cons]
   show _++(f x' v++_)=_
   rw[hx]
  rw[←hL,e]
  exact⟨this,h.q.r.h⟩
 ·have sym: ∀a b:Value,(a.ownBlock=none∨a.ownBlock≠b.ownBlock)→b.ownBlock=none∨b.ownBlock≠a.ownBlock:=by
   rintro a b (h|h)
   ·cases hb:b.ownBlock with
    |none=>exact .inl rfl
    |some q=>exact .inr (by rw[h];simp)
   ·exact .inr fun e=>h e.symm
  rcases List.mem_append.1 hp' with hq|hq
  ·have key:=h.q.e p (List.mem_append_left _ hq)
   exact⟨key.o.kept g (hp.2.2 p hq (v,x) List.mem_cons_self),key.h⟩
  ·rcases List.mem_cons.1 hq with rfl|hq
   ·exact⟨o,hv.h⟩
   ·have key:=h.q.e p (List.mem_append_right _ (List.mem_cons_of_mem _ hq))
    exact⟨key.o.kept g (sym _ _ (hp.2.1.1 p hq)),key.h⟩
 ·have e1:(A++(v,x')::B).map (·.1)=(A++(v,x)::B).map (·.1):=by simp
  have e2: ∀T:List (Value×α),(T.Pairwise fun p q=>p.1.ownBlock=none∨p.1.ownBlock≠q.1.ownBlock)↔(T.map (·.1)).Pairwise fun p q=>p.ownBlock=none∨p.ownBlock≠q.ownBlock:=fun T=>by rw[List.pairwise_map]
  rw[e2,e1,←e2]
  exact h.p
section
variable{W:World}{bn bm m lo hi:Nat}{F:Int→Option Int}
theorem b2o{lv v:Value}{l:List Int}{A B:List (Value×List Int)}(hN:Nmr W bn bm m F)(h1:bn<lo)(h2:bm<lo)(h:LsP lo hi lv (A++(v,l)::B) W)(hn:l.length≤900):
  Calls Try.prog 37 #[.pointer (some ⟨bn,0,none⟩),v] W fun e W'=>e= .returned (.tuple #[])∧Aside (LsP lo hi lv (A++(v,l.map (nmF F))::B) W'∧Chg lo hi W W'):=by
 have hv:=h.q.e (v,l) (by simp)
 refine(a7R v l W hN h1 h2 (by rw[←a1D];exact hv.o) hn).mono ?_
 rintro e W' ⟨rfl,hI⟩
 refine⟨rfl,h.inner (by decide) (fun _=>rfl) (by simp) ?_ hI.out.g⟩
 have:=hI.out.o
 rw[←a1D]at this
 show W'.ownsRow lo 3 1 v (l.map (nmF F)).length ((l.map (nmF F)).flatMap fun n=>[.int .i64 n])
 rw[List.length_map]
 exact this
theorem b2r{v:Value}{l:List Int}(hN:Nmr W bn bm m F)(h1:bn<lo)(h2:bm<lo)(h:Rw lo hi 3 1 v l.length (l.flatMap fun n=>[.int .i64 n]) W)(hn:l.length≤900):
  Calls Try.prog 37 #[.pointer (some ⟨bn,0,none⟩),v] W fun e W'=>e= .returned (.tuple #[])∧Aside (Rw lo hi 3 1 v (l.map (nmF F)).length ((l.map (nmF F)).flatMap fun n=>[.int .i64 n]) W'∧Chg lo hi W W'):=by
 refine(a7R v l W hN h1 h2 (by rw[←a1D];exact h.o) hn).mono ?_
 rintro e W' ⟨rfl,hI⟩
 refine⟨rfl,⟨?_,h.h⟩,Chg.grown hI.out.g fun q hq=>⟨(h.o.lt q hq).1,h.h q hq⟩⟩
 have:=hI.out.o
 rw[←a1D]at this
 rw[List.length_map]
 exact this
theorem b1V{v:Value}{l:List (Int×Int)}(hN:Nmr W bn bm m F)(h1:bn<lo)(h2:bm<lo)(h:Rw lo hi 45 2 v l.length (l.flatMap fun p=>[.int .i64 p.1,.int .i64 p.2]) W)(hn:l.length≤900):
  Calls Try.prog 39 #[.pointer (some ⟨bn,0,none⟩),v] W fun e W'=>e= .returned (.tuple #[])∧Aside (Rw lo hi 45 2 v (l.map fun p=>(p.1,nmF F p.2)).length ((l.map fun p=>(p.1,nmF F p.2)).flatMap fun p=>[.int .i64 p.1,.int .i64 p.2]) W'∧Chg lo hi W W'):=by
 refine(a3p v l W hN h1 h2 h.o hn).mono ?_
 rintro e W' ⟨rfl,hI⟩
 refine⟨rfl,⟨?_,h.h⟩,Chg.grown hI.out.g fun q hq=>⟨(h.o.lt q hq).1,h.h q hq⟩⟩
 have:=hI.out.o
 rw[List.length_map]
 exact this
theorem b1r{v:Value}{T:List (Value×Itm)}(hN:Nmr W bn bm m F)(h1:bn<lo)(h2:bm<lo)(h:ItP lo hi v T W)(hn:T.length≤900)(hin: ∀p∈T,p.2.ts.length≤900):
  Calls Try.prog 38 #[.pointer (some ⟨bn,0,none⟩),v] W fun e W'=>e= .returned (.tuple #[])∧Aside (ItP lo hi v (T.map fun p=>(p.1,nmI (nmF F) p.2)) W'∧Chg lo hi W W'):=by
 refine(a9F v T W hN h1 h2 (base:=lo) (tp:=hi) ⟨h.q.r.o,fun p hp=>(h.q.e p hp).o,h.p,h.q.r.h,fun p hp=>(h.q.e p hp).h,rfl,rfl,rfl,Nat.le_refl _,fun _ _ _=>rfl⟩ hn hin).mono ?_
 rintro e W' ⟨rfl,hq⟩
 have q:=hq.out
 exact⟨rfl,⟨⟨⟨⟨q.o,q.h⟩,fun p hp=>⟨q.e p hp,q.he p hp⟩⟩,q.p⟩,⟨q.os,q.tape,q.output,q.size,q.fr⟩⟩⟩
end
end Go.Proofs.Ytcblehiddfnafaa.canonSame
namespace Go.Proofs.Ytcblehiddfnafaa.canonSame
open Go.Shelf Go.RowKit Go.Lib Go.Sort
structure Nv(w:World)(b1 b2 bn bm:Nat)(vs y:List Value)(o:List Int)(N:Nat→Nat)(O:Ow)(W:World):Prop where
 b:Below w.heap.size w W
 c1:W.heap[b1]? =some (.cells vs.toArray 31)
 c2:W.heap[b2]? =some (.cells y.toArray 31)
 m:Nmr W bn bm o.length (nmO o)
 o:OwI N O W
 a:Asc N
 s:N 10≤W.heap.size
 h1:w.heap.size≤b1
 h2:b1<b2
 h3:b2<bn
 h4:b2<bm
 h5:bn<N 0
 h6:bm<N 0
section
variable{w:World}{b1 b2 bn bm:Nat}{vs y:List Value}{o:List Int}{N:Nat→Nat}{O O':Ow}{W W':World}
theorem Nv.lo(h:Nv w b1 b2 bn bm vs y o N O W){i:Nat}(hi:i≤10):N 0≤N i:=h.a.le (Nat.zero_le i) hi
theorem Nv.gr(h:Nv w b1 b2 bn bm vs y o N O W)(g:Gr W W'):Nv w b1 b2 bn bm vs y o N O W':=
 ⟨a0N h.b h.b.size g,a0M h.c1 g,a0M h.c2 g,h.m.gr g,h.o.kp h.a (Kp.gr g h.s),h.a,Nat.le_trans h.s (Gr.le g),h.h1,h.h2,h.h3,h.h4,h.h5,h.h6⟩
theorem Nv.set(h:Nv w b1 b2 bn bm vs y o N O W)(j:Nat)(v:Value):Nv w b1 b2 bn bm (vs.set j v) y o N O (W.setCell ⟨b1,j,none⟩ v):=by
 have:=h.h2;have:=h.h3;have:=h.h4;have:=h.h5;have:=h.h6
 exact⟨h.b.setCell (p:=⟨b1,j,none⟩) h.h1 v,a1X h.c1 j v,(a0n (fun e=>by have e:b2=b1:=e;omega) j v).trans h.c2,h.m.keep (a0n (by omega) j v) (a0n (by omega) j v),h.o.kp h.a (Kp.set (.inl (by omega)) W j v),h.a,by rw[World.size_setCell];exact h.s,h.h1,h.h2,h.h3,h.h4,h.h5,h.h6⟩
theorem Nv.chg(h:Nv w b1 b2 bn bm vs y o N O W)(j:Nat)(hj:j<10)(c:Chg (N j) (N (j+1)) W W')(hO:OwI N O' W'):Nv w b1 b2 bn bm vs y o N O' W':=by
 have h0:=h.lo (i:=j) (by omega)
 have:=h.h1;have:=h.h2;have:=h.h3;have:=h.h4;have:=h.h5;have:=h.h6;have:=h.s;have:=h.lo (i:=10) (by omega)
 have kp: ∀k x,k<N 0→W.heap[k]? =some x→W'.heap[k]? =some x:=fun k x hk hx=>(c.fr k ((Array.getElem?_eq_some_iff.1 hx).1) (.inl (by omega))).trans hx
 exact⟨c.below h.b (by omega) h.b.size,kp _ _ (by omega) h.c1,kp _ _ (by omega) h.c2,h.m.keep (c.fr _ (by omega) (.inl (by omega))) (c.fr _ (by omega) (.inl (by omega))),hO,h.a,Nat.le_trans h.s c.size,h.h1,h.h2,h.h3,h.h4,h.h5,h.h6⟩
theorem Nv.but(h:Nv w b1 b2 bn bm vs y o N O W){j:Nat}(hj:j<10)(c:Chg (N j) (N (j+1)) W W'): ∀i,i<10→i≠j→Kp (N i) (N (i+1)) W W':=fun i hi hne k h1 h2=>by
 refine c.fr k ?_ ?_
 ·have:=h.a.le (i:=i+1) (j:=10) (by omega) (Nat.le_refl _)
  have:=h.s
  omega
 ·rcases Nat.lt_or_gt_of_ne hne with hlt|hlt
  ·have:=h.a.le (i:=i+1) (j:=j) (by omega) (by omega)
   omega
  ·have:=h.a.le (i:=j+1) (j:=i) (by omega) (by omega)
   omega
theorem Nv.chO(h:Nv w b1 b2 bn bm vs y o N O W){v:Value}{T:List (Value×Obd)}(c:Chg (N 1) (N 2) W W')(hT:ObP (N 1) (N 2) v T W'):Nv w b1 b2 bn bm vs y o N {O with o:=v,To:=T} W':=by
 have k:=h.but (j:=1) (by decide) c
 exact h.chg 1 (by decide) c ⟨h.o.p.kp (k 0 (by decide) (by decide)),hT,h.o.l.kp (k 2 (by decide) (by decide)),h.o.h.kp (k 3 (by decide) (by decide)),h.o.g.kp (k 4 (by decide) (by decide)),h.o.x.kp (k 5 (by decide) (by decide)),h.o.f.kp (k 6 (by decide) (by decide)),h.o.s.kp (k 7 (by decide) (by decide)),h.o.w.kp (k 8 (by decide) (by decide)),h.o.t.kp (k 9 (by decide) (by decide))⟩
theorem Nv.chL(h:Nv w b1 b2 bn bm vs y o N O W){v:Value}{T:List (Value×List Int)}(c:Chg (N 2) (N 3) W W')(hT:LsP (N 2) (N 3) v T W'):Nv w b1 b2 bn bm vs y o N {O with l:=v,Tl:=T} W':=by
 have k:=h.but (j:=2) (by decide) c
 exact h.chg 2 (by decide) c ⟨h.o.p.kp (k 0 (by decide) (by decide)),h.o.o.kp (k 1 (by decide) (by decide)),hT,h.o.h.kp (k 3 (by decide) (by decide)),h.o.g.kp (k 4 (by decide) (by decide)),h.o.x.kp (k 5 (by decide) (by decide)),h.o.f.kp (k 6 (by decide) (by decide)),h.o.s.kp (k 7 (by decide) (by decide)),h.o.w.kp (k 8 (by decide) (by decide)),h.o.t.kp (k 9 (by decide) (by decide))⟩
theorem Nv.chH(h:Nv w b1 b2 bn bm vs y o N O W){v:Value}{T:List (Value×List Int)}(c:Chg (N 3) (N 4) W W')(hT:LsP (N 3) (N 4) v T W'):Nv w b1 b2 bn bm vs y o N {O with h:=v,Th:=T} W':=by
 have k:=h.but (j:=3) (by decide) c
 exact h.chg 3 (by decide) c ⟨h.o.p.kp (k 0 (by decide) (by decide)),h.o.o.kp (k 1 (by decide) (by decide)),h.o.l.kp (k 2 (by decide) (by decide)),hT,h.o.g.kp (k 4 (by decide) (by decide)),h.o.x.kp (k 5 (by decide) (by decide)),h.o.f.kp (k 6 (by decide) (by decide)),h.o.s.kp (k 7 (by decide) (by decide)),h.o.w.kp (k 8 (by decide) (by decide)),h.o.t.kp (k 9 (by decide) (by decide))⟩
theorem Nv.chG(h:Nv w b1 b2 bn bm vs y o N O W){v:Value}{T:List (Value×List Int)}(c:Chg (N 4) (N 5) W W')(hT:LsP (N 4) (N 5) v T W'):Nv w b1 b2 bn bm vs y o N {O with g:=v,Tg:=T} W':=by
 have k:=h.but (j:=4) (by decide) c
 exact h.chg 4 (by decide) c ⟨h.o.p.kp (k 0 (by decide) (by decide)),h.o.o.kp (k 1 (by decide) (by decide)),h.o.l.kp (k 2 (by decide) (by decide)),h.o.h.kp (k 3 (by decide) (by decide)),hT,h.o.x.kp (k 5 (by decide) (by decide)),h.o.f.kp (k 6 (by decide) (by decide)),h.o.s.kp (k 7 (by decide) (by decide)),h.o.w.kp (k 8 (by decide) (by decide)),h.o.t.kp (k 9 (by decide) (by decide))⟩
theorem Nv.chX(h:Nv w b1 b2 bn bm vs y o N O W){v:Value}{T:List (Value×List Int)}(c:Chg (N 5) (N 6) W W')(hT:LsP (N 5) (N 6) v T W'):Nv w b1 b2 bn bm vs y o N {O with x:=v,Tx:=T} W':=by
 have k:=h.but (j:=5) (by decide) c
 exact h.chg 5 (by decide) c ⟨h.o.p.kp (k 0 (by decide) (by decide)),h.o.o.kp (k 1 (by decide) (by decide)),h.o.l.kp (k 2 (by decide) (by decide)),h.o.h.kp (k 3 (by decide) (by decide)),h.o.g.kp (k 4 (by decide) (by decide)),hT,h.o.f.kp (k 6 (by decide) (by decide)),h.o.s.kp (k 7 (by decide) (by decide)),h.o.w.kp (k 8 (by decide) (by decide)),h.o.t.kp (k 9 (by decide) (by decide))⟩
theorem Nv.chF(h:Nv w b1 b2 bn bm vs y o N O W){v:Value}{l:List Int}(c:Chg (N 6) (N 7) W W')(hT:Rw (N 6) (N 7) 3 1 v l.length (l.flatMap fun n=>[.int .i64 n]) W'):Nv w b1 b2 bn bm vs y o N {O with f:=v,fd:=l} W':=by
 have k:=h.but (j:=6) (by decide) c
 exact h.chg 6 (by decide) c ⟨h.o.p.kp (k 0 (by decide) (by decide)),h.o.o.kp (k 1 (by decide) (by decide)),h.o.l.kp (k 2 (by decide) (by decide)),h.o.h.kp (k 3 (by decide) (by decide)),h.o.g.kp (k 4 (by decide) (by decide)),h.o.x.kp (k 5 (by decide) (by decide)),hT,h.o.s.kp (k 7 (by decide) (by decide)),h.o.w.kp (k 8 (by decide) (by decide)),h.o.t.kp (k 9 (by decide) (by decide))⟩
theorem Nv.chS(h:Nv w b1 b2 bn bm vs y o N O W){v:Value}{T:List (Value×Itm)}(c:Chg (N 7) (N 8) W W')(hT:ItP (N 7) (N 8) v T W'):Nv w b1 b2 bn bm vs y o N {O with s:=v,Ts:=T} W':=by
 have k:=h.but (j:=7) (by decide) c
 exact h.chg 7 (by decide) c ⟨h.o.p.kp (k 0 (by decide) (by decide)),h.o.o.kp (k 1 (by decide) (by decide)),h.o.l.kp (k 2 (by decide) (by decide)),h.o.h.kp (k 3 (by decide) (by decide)),h.o.g.kp (k 4 (by decide) (by decide)),h.o.x.kp (k 5 (by decide) (by decide)),h.o.f.kp (k 6 (by decide) (by decide)),hT,h.o.w.kp (k 8 (by decide) (by decide)),h.o.t.kp (k 9 (by decide) (by decide))⟩
theorem Nv.chW(h:Nv w b1 b2 bn bm vs y o N O W){v:Value}{T:List (Value×Itm)}(c:Chg (N 8) (N 9) W W')(hT:ItP (N 8) (N 9) v T W'):Nv w b1 b2 bn bm vs y o N {O with w:=v,Tw:=T} W':=by
 have k:=h.but (j:=8) (by decide) c
 exact h.chg 8 (by decide) c ⟨h.o.p.kp (k 0 (by decide) (by decide)),h.o.o.kp (k 1 (by decide) (by decide)),h.o.l.kp (k 2 (by decide) (by decide)),h.o.h.kp (k 3 (by decide) (by decide)),h.o.g.kp (k 4 (by decide) (by decide)),h.o.x.kp (k 5 (by decide) (by decide)),h.o.f.kp (k 6 (by decide) (by decide)),h.o.s.kp (k 7 (by decide) (by decide)),hT,h.o.t.kp (k 9 (by decide) (by decide))⟩
theorem Nv.chT(h:Nv w b1 b2 bn bm vs y o N O W){v:Value}{l:List (Int×Int)}(c:Chg (N 9) (N 10) W W')(hT:Rw (N 9) (N 10) 45 2 v l.length (l.flatMap fun p=>[.int .i64 p.1,.int .i64 p.2]) W'):Nv w b1 b2 bn bm vs y o N {O with t:=v,ts:=l} W':=by
 have k:=h.but (j:=9) (by decide) c
 exact h.chg 9 (by decide) c ⟨h.o.p.kp (k 0 (by decide) (by decide)),h.o.o.kp (k 1 (by decide) (by decide)),h.o.l.kp (k 2 (by decide) (by decide)),h.o.h.kp (k 3 (by decide) (by decide)),h.o.g.kp (k 4 (by decide) (by decide)),h.o.x.kp (k 5 (by decide) (by decide)),h.o.f.kp (k 6 (by decide) (by decide)),h.o.s.kp (k 7 (by decide) (by decide)),h.o.w.kp (k 8 (by decide) (by decide)),hT⟩
end
theorem b5E{N:Nat→Nat}{O:Ow}{W:World}(h:OwI N O W)(hN:Asc N)(S:Std): ∀v∈ovV O S,v.oneCell'=true:=by
 obtain⟨A,e,_⟩:=h.st hN S
 rw[e]
 exact a4D _ _
theorem Nv.start{w V1 V2:World}{bn bm:Nat}{A:Lcs}{S:Std}{O:Ow}{N:Nat→Nat}{y:List Value}{o:List Int}(hV:Below w.heap.size w V1)(c1:V1.heap[w.heap.size]? =some (.cells (stV A S).toArray 31))(c2:V1.heap[w.heap.size+1]? =some (.cells y.toArray 31))(cn:V1.heap[bn]? =some (.cells #[.map (some bm)] 54))(m:MapF V1 bm o.length (nmO o))
  (nb:w.heap.size+1<bn∧w.heap.size+1<bm∧bm<bn) (sz:V1.heap.size=bn+1) (hb:Below V1.heap.size V1 V2) (hA:Asc N) (h0:V1.heap.size≤N 0) (h10:N 10≤V2.heap.size) (hO:OwI N O V2):Nv w w.heap.size (w.heap.size+1) bn bm (ovV O S) y o N O (V2.setCells w.heap.size 0 (ovV O S)):=by
 have ne: ∀k,k≠w.heap.size→(V2.setCells w.heap.size 0 (ovV O S)).heap[k]? =V2.heap[k]? :=fun k hk=>a0R hk _ _
 have old: ∀k x,V1.heap[k]? =some x→V2.heap[k]? =some x:=fun k x h=>(hb.block k ((Array.getElem?_eq_some_iff.1 h).1)).trans h
 exact⟨a0l (Nat.le_refl _) _ 0 (hV.trans (hb.mono hV.size)),a0Y (old _ _ c1) (ovV O S) rfl,(ne _ (by omega)).trans (old _ _ c2),⟨(ne _ (by omega)).trans (old _ _ cn),(m.below hb m.lt).keep (ne _ (by omega))⟩,hO.kp hA (Kp.sets (.inl (by omega)) V2 0 _),hA,by rw[a1A];exact h10,Nat.le_refl _,by omega,by omega,by omega,by omega,by omega⟩
end Go.Proofs.Ytcblehiddfnafaa.canonSame
namespace Go.Proofs.Ytcblehiddfnafaa.canonSame
open Go.Shelf Go.RowKit Go.Lib Go.Sort
theorem Chg.out{lo hi:Nat}{W W':World}(c:Chg lo hi W W'){k:Nat}{x:Obj}(h:W.heap[k]? =some x)(hk:hi≤k):W'.heap[k]? =some x:=(c.fr k (Array.getElem?_eq_some_iff.1 h).1 (.inr hk)).trans h
def upj{α:Type}(t j:Nat)(f:α→α)(x:α):α:=cond (Nat.blt t j) (f x) x
set_option linter.unusedVariables false in
set_option maxHeartbeats 16000000 in
set_option maxRecDepth 100000 in
theorem b0G{P:Program}{k29 k31 k41 k43 k45 k66 k97:Nat}{y29 y31 y41 y43 y45 y66 y97:List Value}(L:LayS P k29 k31 k41 k43 k45 k66 k97 y29 y31 y41 y43 y45 y66 y97)(hk0: ¬k29=0)(hk1:k31=25)(hy1:y31.length=k31)(hk:k41=14)
  (t60:P.underlying 60=some (.slice 24))
  (e34: ∀args w,(callFunc 34 args).run P w= .ok (.enter 34 args) w) (e35: ∀args w,(callFunc 35 args).run P w= .ok (.enter 35 args) w) (e37: ∀args w,(callFunc 37 args).run P w= .ok (.enter 37 args) w) (e38: ∀args w,(callFunc 38 args).run P w= .ok (.enter 38 args) w) (e39: ∀args w,(callFunc 39 args).run P w= .ok (.enter 39 args) w)
  (A:Lcs) (S:Std)
  (h34: ∀(bn bm:Nat) (k:Int) (W:World),Nmr W bn bm (ord S).length (nmO (ord S))→Calls P 34 #[.pointer (some ⟨bn,0,none⟩),.int .i64 k] W fun e w'=>e= .returned (.int .i64 (nam (ord S) k))∧w'=W)
  (h35: ∀(lo hi c:Nat) (a:Option Addr) (T:List (Value×Obd)) (rv:Value) (W:World),ObP lo hi (.slice a T.length c) T W→(∀p∈T,-5000≤p.2.id∧p.2.id≤5000)→T.length≤900→Calls P 35 #[.slice a T.length c,.func (.func 36) #[rv] #[]] W fun e W'=>e= .returned (.tuple #[])∧Aside (∃T',T'.length=T.length∧T'.map (·.2)=(T.map (·.2)).foldl a9J []∧ObP lo hi (.slice a T.length c) T' W'∧Chg lo hi W W'))
  (h37: ∀(bn bm lo hi:Nat) (lv v:Value) (l:List Int) (Ta Tb:List (Value×List Int)) (W:World),Nmr W bn bm (ord S).length (nmO (ord S))→bn<lo→bm<lo→LsP lo hi lv (Ta++(v,l)::Tb) W→l.length≤900→Calls P 37 #[.pointer (some ⟨bn,0,none⟩),v] W fun e W'=>e= .returned (.tuple #[])∧Aside (LsP lo hi lv (Ta++(v,l.map (nam (ord S)))::Tb) W'∧Chg lo hi W W'))
  (h37f: ∀(bn bm lo hi:Nat) (v:Value) (l:List Int) (W:World),Nmr W bn bm (ord S).length (nmO (ord S))→bn<lo→bm<lo→Rw lo hi 3 1 v l.length (l.flatMap fun n=>[.int .i64 n]) W→l.length≤900→Calls P 37 #[.pointer (some ⟨bn,0,none⟩),v] W fun e W'=>e= .returned (.tuple #[])∧Aside (Rw lo hi 3 1 v (l.map (nam (ord S))).length ((l.map (nam (ord S))).flatMap fun n=>[.int .i64 n]) W'∧Chg lo hi W W'))
  (h38: ∀(bn bm lo hi:Nat) (v:Value) (T:List (Value×Itm)) (W:World),Nmr W bn bm (ord S).length (nmO (ord S))→bn<lo→bm<lo→ItP lo hi v T W→T.length≤900→(∀p∈T,p.2.ts.length≤900)→Calls P 38 #[.pointer (some ⟨bn,0,none⟩),v] W fun e W'=>e= .returned (.tuple #[])∧Aside (ItP lo hi v (T.map fun p=>(p.1,nmI (nam (ord S)) p.2)) W'∧Chg lo hi W W'))
  (h39: ∀(bn bm lo hi:Nat) (v:Value) (l:List (Int×Int)) (W:World),Nmr W bn bm (ord S).length (nmO (ord S))→bn<lo→bm<lo→Rw lo hi 45 2 v l.length (l.flatMap fun p=>[.int .i64 p.1,.int .i64 p.2]) W→l.length≤900→Calls P 39 #[.pointer (some ⟨bn,0,none⟩),v] W fun e W'=>e= .returned (.tuple #[])∧Aside (Rw lo hi 45 2 v (l.map fun p=>(p.1,nam (ord S) p.2)).length ((l.map fun p=>(p.1,nam (ord S) p.2)).flatMap fun p=>[.int .i64 p.1,.int .i64 p.2]) W'∧Chg lo hi W W'))
  (w:World) (b1 b2 bn bm:Nat) (N:Nat→Nat) (VS:List Value) (ap ao al ah ag ax af as' aw at':Option Addr) (cp co cl ch cg cx cf cs cw ct:Nat)
  (pl:List Pld) (To:List (Value×Obd)) (Tl Th Tg Tx:List (Value×List Int)) (fd:List Int) (Ts Tw:List (Value×Itm)) (ts:List (Int×Int))
  (hVS:ovV ⟨.slice ap pl.length cp,.slice ao To.length co,.slice al Tl.length cl,.slice ah Th.length ch,.slice ag Tg.length cg,.slice ax Tx.length cx,.slice af fd.length cf,.slice as' Ts.length cs,.slice aw Tw.length cw,.slice at' ts.length ct,pl,To,Tl,Th,Tg,Tx,fd,Ts,Tw,ts⟩ S=VS)
  (nTo:To.length≤900) (hid: ∀p∈To,-5000≤p.2.id∧p.2.id≤5000) (nTl:Tl.length≤900∧ ∀p∈Tl,p.2.length≤900) (nTh:Th.length≤900∧ ∀p∈Th,p.2.length≤900) (nTg:Tg.length≤900∧ ∀p∈Tg,p.2.length≤900) (nTx:Tx.length≤900∧ ∀p∈Tx,p.2.length≤900) (nfd:fd.length≤900) (nTs:Ts.length≤900∧ ∀p∈Ts,p.2.ts.length≤900) (nTw:Tw.length≤900∧ ∀p∈Tw,p.2.ts.length≤900) (nts:ts.length≤900)
  (W:World) (hN:Nv w b1 b2 bn bm VS y31 (ord S) N ⟨.slice ap pl.length cp,.slice ao To.length co,.slice al Tl.length cl,.slice ah Th.length ch,.slice ag Tg.length cg,.slice ax Tx.length cx,.slice af fd.length cf,.slice as' Ts.length cs,.slice aw Tw.length cw,.slice at' ts.length ct,pl,To,Tl,Th,Tg,Tx,fd,Ts,Tw,ts⟩ W) (R:Ending→World→Prop)
  (hR: ∀To' V,To'.map (·.2)=(To.map (·.2)).foldl a9J []→Nv w b1 b2 bn bm ((VS.set 19 (.int .i64 (nam (ord S) S.cast.obj))).set 15 (.int .i64 0)) y31 (ord S) N ⟨.slice ap pl.length cp,.slice ao To.length co,.slice al Tl.length cl,.slice ah Th.length ch,.slice ag Tg.length cg,.slice ax Tx.length cx,.slice af fd.length cf,.slice as' Ts.length cs,.slice aw Tw.length cw,.slice at' ts.length ct,pl,To',(Tl.map (fun p:Value×List Int=>(p.1,p.2.map (nam (ord S))))),(Th.map (fun p:Value×List Int=>(p.1,p.2.map (nam (ord S))))),(Tg.map (fun p:Value×List Int=>(p.1,p.2.map (nam (ord S))))),(Tx.map (fun p:Value×List Int=>(p.1,p.2.map (nam (ord S))))),(fd.map (nam (ord S))),(Ts.map (fun p:Value×Itm=>(p.1,nmI (nam (ord S)) p.2))),(Tw.map (fun p:Value×Itm=>(p.1,nmI (nam (ord S)) p.2))),(ts.map (fun p:Int×Int=>(p.1,nam (ord S) p.2)))⟩ V→R (.returned (.agg ((VS.set 19 (.int .i64 (nam (ord S) S.cast.obj))).set 15 (.int .i64 0)).toArray)) (V.setCells b2 0 ((VS.set 19 (.int .i64 (nam (ord S) S.cast.obj))).set 15 (.int .i64 0))))
  (c:Code) (hc:Try.f10.body.bind (a0Z 8)=some c) (s4 s5 s6 s7 s8 s9 s10 s11 s12 s13 s14 s15 s16 s17 s18 s19 s20 s21 s22 s23 s24 s25 s26 s27 s28 s29 s30 s31 s32 s33 s34 s35 s36 s37 s38 s39 s40 s41 s42 s43 s44 s45 s46 s47 s48 s49 s50 s51 s52 s53 s54 s55 s56 s57 s58 s59 s60 s61 s62 s63 s64 s65 s66 s67 s68 s69 s70 s71 s72 s73 s74 s75 s76 s77 s78 s79 s80 s81 s82 s83 s84 s85 s86 s87 s88 s89 s90 s91 s92 s93 s94 s95 s96 s97 s98 s99 s100 s101 s102:Value):
  c.wp P (bodyPost P Try.f10 R) {tmps:= #[.agg (stV A S).toArray,.pointer (some ⟨b1,0,none⟩),.pointer (some ⟨b2,0,none⟩),.pointer (some ⟨bn,0,none⟩),s4,s5,s6,s7,s8,s9,s10,s11,s12,s13,s14,s15,s16,s17,s18,s19,s20,s21,s22,s23,s24,s25,s26,s27,s28,s29,s30,s31,s32,s33,s34,s35,s36,s37,s38,s39,s40,s41,s42,s43,s44,s45,s46,s47,s48,s49,s50,s51,s52,s53,s54,s55,s56,s57,s58,s59,s60,s61,s62,s63,s64,s65,s66,s67,s68,s69,s70,s71,s72,s73,s74,s75,s76,s77,s78,s79,s80,s81,s82,s83,s84,s85,s86,s87,s88,s89,s90,s91,s92,s93,s94,s95,s96,s97,s98,s99,s100,s101,s102],defers:=[]} W:=by
 have mixed:=L.mixed;have t3:=L.t3;have a3:=L.a3;have z3:=L.z3;have v3:=L.v3;have qu3:=run_underlying L.t3;have t4:=L.t4;have a4:=L.a4;have z4:=L.z4
 have t22:=L.t22;have a22:=L.a22;have z22:=L.z22;have v22:=L.v22;have qu22:=run_underlying L.t22
 have t23:=L.t23;have a23:=L.a23;have z23:=L.z23;have v23:=L.v23;have qu23:=run_underlying L.t23
 have t24:=L.t24;have a24:=L.a24;have z24:=L.z24;have v24:=L.v24;have qu24:=run_underlying L.t24
 have t25:=L.t25;have a25:=L.a25;have z25:=L.z25;have v25:=L.v25;have qu25:=run_underlying L.t25
 have t26:=L.t26;have a26:=L.a26;have z26:=L.z26;have v26:=L.v26;have qu26:=run_underlying L.t26
 have t27:=L.t27;have a27:=L.a27;have z27:=L.z27;have v27:=L.v27;have qu27:=run_underlying L.t27
 have qu29:=run_underlying L.t29;have a29:=L.a29;have z29:=L.z29;have v29:=L.v29
 have qu31:=run_underlying L.t31;have a31:=L.a31;have z31:=L.z31;have v31:=L.v31
 have qu41:=run_underlying L.t41;have a41:=L.a41;have z41:=L.z41;have v41:=L.v41
 have qu60:=run_underlying t60
 have hc':=Option.some.inj ((show _=Try.f10.body.bind (a0Z 8)from rfl).trans hc)
 clear hc
 subst hc'
 have H34:Aside _:=h34
 have H35:Aside _:=h35
 have H37:Aside _:=h37
 have H37F:Aside _:=h37f
 have H38:Aside _:=h38
 have H39:Aside _:=h39
 have HID:Aside _:=hid
 have HR:Aside _:=hR
 have CO:Aside (∀W:World,W.heap[b1]? =some (.cells VS.toArray 31)→W.cell? ⟨b1,1,none⟩=some (.slice ao To.length co)):=fun W h=>a0B (a0A h) (j:=1) (v:=.slice ao To.length co) (by rw[←hVS];rfl)
 have CL:Aside (∀W:World,W.heap[b1]? =some (.cells VS.toArray 31)→W.cell? ⟨b1,2,none⟩=some (.slice al Tl.length cl)):=fun W h=>a0B (a0A h) (j:=2) (v:=.slice al Tl.length cl) (by rw[←hVS];rfl)
 have CH:Aside (∀W:World,W.heap[b1]? =some (.cells VS.toArray 31)→W.cell? ⟨b1,3,none⟩=some (.slice ah Th.length ch)):=fun W h=>a0B (a0A h) (j:=3) (v:=.slice ah Th.length ch) (by rw[←hVS];rfl)
 have CG:Aside (∀W:World,W.heap[b1]? =some (.cells VS.toArray 31)→W.cell? ⟨b1,4,none⟩=some (.slice ag Tg.length cg)):=fun W h=>a0B (a0A h) (j:=4) (v:=.slice ag Tg.length cg) (by rw[←hVS];rfl)
 have CX:Aside (∀W:World,W.heap[b1]? =some (.cells VS.toArray 31)→W.cell? ⟨b1,5,none⟩=some (.slice ax Tx.length cx)):=fun W h=>a0B (a0A h) (j:=5) (v:=.slice ax Tx.length cx) (by rw[←hVS];rfl)
 have CF:Aside (∀W:World,W.heap[b1]? =some (.cells VS.toArray 31)→W.cell? ⟨b1,6,none⟩=some (.slice af fd.length cf)):=fun W h=>a0B (a0A h) (j:=6) (v:=.slice af fd.length cf) (by rw[←hVS];rfl)
 have CS:Aside (∀W:World,W.heap[b1]? =some (.cells VS.toArray 31)→W.cell? ⟨b1,7,none⟩=some (.slice as' Ts.length cs)):=fun W h=>a0B (a0A h) (j:=7) (v:=.slice as' Ts.length cs) (by rw[←hVS];rfl)
 have CW:Aside (∀W:World,W.heap[b1]? =some (.cells VS.toArray 31)→W.cell? ⟨b1,8,none⟩=some (.slice aw Tw.length cw)):=fun W h=>a0B (a0A h) (j:=8) (v:=.slice aw Tw.length cw) (by rw[←hVS];rfl)
 have CT:Aside (∀W:World,W.heap[b1]? =some (.cells VS.toArray 31)→W.cell? ⟨b1,21,none⟩=some (.slice at' ts.length ct)):=fun W h=>a0B (a0A h) (j:=21) (v:=.slice at' ts.length ct) (by rw[←hVS];rfl)
 have CC:Aside (∀W:World,W.heap[b1]? =some (.cells VS.toArray 31)→W.cell? ⟨b1,19,none⟩=some (.int .i64 S.cast.obj)):=fun W h=>a0B (a0A h) (j:=19) (v:=.int .i64 S.cast.obj) (by rw[←hVS];rfl)
 have CN:Aside (∀W:World,W.heap[b1]? =some (.cells VS.toArray 31)→W.cell? ⟨b1,15,none⟩=some (.int .i64 S.next)):=fun W h=>a0B (a0A h) (j:=15) (v:=.int .i64 S.next) (by rw[←hVS];rfl)
 have VSl:VS.length=25:=by rw[←hVS];rfl
 have HVSL:Hid _:=VSl
 have VS1: ∀v∈VS,v.oneCell'=true:=by rw[←hVS];exact b5E hN.o hN.a S
 have HVS1:Aside _:=VS1
 have HK1:Hid (k31=25):=hk1
 have hy8:25=y31.length:=by rw[hy1,hk1]
 have HY1:Hid (25=y31.length):=hy8
 have hn1: ¬k31=0:=by omega
 have NTL:Aside _:=nTl.2
 have NTH:Aside _:=nTh.2
 have NTG:Aside _:=nTg.2
 have NTX:Aside _:=nTx.2
 have NTS:Aside _:=nTs
 have NTW:Aside _:=nTw
 have nl:=nTl.1
 have nh:=nTh.1
 have ng:=nTg.1
 have nx:=nTx.1
 have HVS:Hid _:=hVS
 clear hVS
 have M0:Aside (Nv w b1 b2 bn bm VS y31 (ord S) N ⟨.slice ap pl.length cp,.slice ao To.length co,.slice al Tl.length cl,.slice ah Th.length ch,.slice ag Tg.length cg,.slice ax Tx.length cx,.slice af fd.length cf,.slice as' Ts.length cs,.slice aw Tw.length cw,.slice at' ts.length ct,pl,To,Tl,Th,Tg,Tx,fd,Ts,Tw,ts⟩ W):=hN
 clear h34 h35 h37 h37f h38 h39 hid hR hN VSl VS1 hk1 hy1 hk hy8 nTl nTh nTg nTx nTs nTw
 have c1:=CO.out W M0.out.c1
 have hc:=H35.out (N 1) (N 2) co ao To (.pointer (some ⟨bn,0,none⟩)) W M0.out.o.o HID.out nTo
 go_upto_region 9 with(go_at_fn 35;refine hc.mono ?_;rintro e V0 ⟨rfl,R0⟩;obtain⟨To1,hl1,hm1,hp1,hg1⟩:=R0.out;have M1:Aside (Nv w b1 b2 bn bm VS y31 (ord S) N ⟨.slice ap pl.length cp,.slice ao To.length co,.slice al Tl.length cl,.slice ah Th.length ch,.slice ag Tg.length cg,.slice ax Tx.length cx,.slice af fd.length cf,.slice as' Ts.length cs,.slice aw Tw.length cw,.slice at' ts.length ct,pl,To1,Tl,Th,Tg,Tx,fd,Ts,Tw,ts⟩ V0):=M0.out.chO hg1 hp1;have HTO:Hid _:=hm1;clear hl1 hm1 hp1 hg1 R0)
 clear hc c1 M0
 have c2:=CL.out V0 M1.out.c1
 have c3:=CH.out V0 M1.out.c1
 have c4:=CG.out V0 M1.out.c1
 have c5:=CX.out V0 M1.out.c1
 have c6:=CF.out V0 M1.out.c1
 have gA:Gr V0 (V0.alloc (.cells #[.slice af fd.length cf] 25)):=(Gr.refl _).alloc _
 have bf0:=a0T V0 (.cells #[.slice af fd.length cf] 25)
 have gB:=(Gr.refl (V0.alloc (.cells #[.slice af fd.length cf] 25))).alloc (.cells #[.slice al Tl.length cl,.slice ah Th.length ch,.slice ag Tg.length cg,.slice ax Tx.length cx,.slice (some ⟨V0.heap.size,0,none⟩) 1 1] 24)
 have bl0:=a0T (V0.alloc (.cells #[.slice af fd.length cf] 25)) (.cells #[.slice al Tl.length cl,.slice ah Th.length ch,.slice ag Tg.length cg,.slice ax Tx.length cx,.slice (some ⟨V0.heap.size,0,none⟩) 1 1] 24)
 rw[World.size_alloc]at bl0
 have M2:Aside (Nv w b1 b2 bn bm VS y31 (ord S) N ⟨.slice ap pl.length cp,.slice ao To.length co,.slice al Tl.length cl,.slice ah Th.length ch,.slice ag Tg.length cg,.slice ax Tx.length cx,.slice af fd.length cf,.slice as' Ts.length cs,.slice aw Tw.length cw,.slice at' ts.length ct,pl,To1,Tl,Th,Tg,Tx,fd,Ts,Tw,ts⟩ _∧_∧_):=⟨(M1.out.gr gA).gr gB,a0M bf0 gB,bl0⟩
 have NF:Aside (N 10≤V0.heap.size):=M1.out.s
 clear gA bf0 gB bl0
 go_wp2
 generalize V0.heap.size=bf at M2 NF ⊢
 generalize (V0.alloc (.cells #[.slice af fd.length cf] 25)).alloc (.cells #[.slice al Tl.length cl,.slice ah Th.length ch,.slice ag Tg.length cg,.slice ax Tx.length cx,.slice (some ⟨bf,0,none⟩) 1 1] 24)=W2 at M2 ⊢
 clear M1 c2 c3 c4 c5 c6
 go_loopg [66] 5 (fun kx q wr=> ∃j:Nat,q= .int .i64 j∧j≤5∧5-j≤kx∧Aside (Nv w b1 b2 bn bm VS y31 (ord S) N ⟨.slice ap pl.length cp,.slice ao To.length co,.slice al Tl.length cl,.slice ah Th.length ch,.slice ag Tg.length cg,.slice ax Tx.length cx,.slice af fd.length cf,.slice as' Ts.length cs,.slice aw Tw.length cw,.slice at' ts.length ct,pl,To1,(upj 0 j (List.map (fun p:Value×List Int=>(p.1,p.2.map (nam (ord S))))) Tl),(upj 1 j (List.map (fun p:Value×List Int=>(p.1,p.2.map (nam (ord S))))) Th),(upj 2 j (List.map (fun p:Value×List Int=>(p.1,p.2.map (nam (ord S))))) Tg),(upj 3 j (List.map (fun p:Value×List Int=>(p.1,p.2.map (nam (ord S))))) Tx),(upj 4 j (List.map (nam (ord S))) fd),Ts,Tw,ts⟩ wr∧wr.heap[bf]? =some (.cells [.slice af fd.length cf].toArray 25)∧wr.heap[bf+1]? =some (.cells [.slice al Tl.length cl,.slice ah Th.length ch,.slice ag Tg.length cg,.slice ax Tx.length cx,.slice (some ⟨bf,0,none⟩) 1 1].toArray 24)))
 case atStart=>exact⟨0,rfl,Nat.zero_le _,Nat.le_refl _,M2⟩
 case round=>
  clear M2
  obtain⟨j,rfl,hj,hkx,M⟩:=hrel
  by_cases hlt:j<5
  ·obtain rfl|rfl|rfl|rfl|rfl:j=0∨j=1∨j=2∨j=3∨j=4:=by omega
   ·have cJ:=a0B (a0A M.out.2.2) (j:=0) (v:=.slice al Tl.length cl) rfl
    have M3:Aside (Nv w b1 b2 bn bm VS y31 (ord S) N ⟨.slice ap pl.length cp,.slice ao To.length co,.slice al Tl.length cl,.slice ah Th.length ch,.slice ag Tg.length cg,.slice ax Tx.length cx,.slice af fd.length cf,.slice as' Ts.length cs,.slice aw Tw.length cw,.slice at' ts.length ct,pl,To1,((Tl.take 0).map (fun p:Value×List Int=>(p.1,p.2.map (nam (ord S))))++Tl.drop 0),Th,Tg,Tx,fd,Ts,Tw,ts⟩ wr∧wr.heap[bf]? =some (.cells [.slice af fd.length cf].toArray 25)∧wr.heap[bf+1]? =some (.cells [.slice al Tl.length cl,.slice ah Th.length ch,.slice ag Tg.length cg,.slice ax Tx.length cx,.slice (some ⟨bf,0,none⟩) 1 1].toArray 24)):=M.out
    clear M
    go_wp2
    clear cJ
    go_loopg [72] Tl.length (fun kx q wq=> ∃k:Nat,q= .int .i64 k∧k≤Tl.length∧Tl.length-k≤kx∧Aside (Nv w b1 b2 bn bm VS y31 (ord S) N ⟨.slice ap pl.length cp,.slice ao To.length co,.slice al Tl.length cl,.slice ah Th.length ch,.slice ag Tg.length cg,.slice ax Tx.length cx,.slice af fd.length cf,.slice as' Ts.length cs,.slice aw Tw.length cw,.slice at' ts.length ct,pl,To1,((Tl.take k).map (fun p:Value×List Int=>(p.1,p.2.map (nam (ord S))))++Tl.drop k),Th,Tg,Tx,fd,Ts,Tw,ts⟩ wq∧wq.heap[bf]? =some (.cells [.slice af fd.length cf].toArray 25)∧wq.heap[bf+1]? =some (.cells [.slice al Tl.length cl,.slice ah Th.length ch,.slice ag Tg.length cg,.slice ax Tx.length cx,.slice (some ⟨bf,0,none⟩) 1 1].toArray 24)))
    case atStart=>exact⟨0,rfl,Nat.zero_le _,Nat.le_refl _,M3⟩
    case round=>
     clear M3
     obtain⟨k,rfl,hk,hkk,M⟩:=hrel
     have wk:IntKind.i64.wrap ((k:Int)+1)=(k:Int)+1:=by rw[IntKind.wrap_i64];omega
     by_cases hlk:k<Tl.length
     ·have hltz:(k:Int)<(Tl.length:Int):=by omega
      have hdr:Tl.drop k=Tl[k]::Tl.drop (k+1):=List.drop_eq_getElem_cons hlk
      have htk:Tl.take (k+1)=Tl.take k++ [Tl[k]]:=List.take_succ_eq_append_getElem hlk
      have hAl:((Tl.take k).map (fun p:Value×List Int=>(p.1,p.2.map (nam (ord S))))).length=k:=by rw[List.length_map,List.length_take];omega
      have hnext:(Tl.take k).map (fun p:Value×List Int=>(p.1,p.2.map (nam (ord S))))++(Tl[k].1,Tl[k].2.map (nam (ord S)))::Tl.drop (k+1)=(Tl.take (k+1)).map (fun p:Value×List Int=>(p.1,p.2.map (nam (ord S))))++Tl.drop (k+1):=by rw[htk,List.map_append,List.append_assoc];rfl
      have hLen:Tl.length=((Tl.take k).map (fun p:Value×List Int=>(p.1,p.2.map (nam (ord S))))++Tl[k]::Tl.drop (k+1)).length:=by rw[List.length_append,hAl,List.length_cons,List.length_drop];omega
      have hsm:=NTL.out Tl[k] (List.getElem_mem hlk)
      have M0:=M.out.1
      have BK:Aside (wr.heap[bf]? =some (.cells [.slice af fd.length cf].toArray 25)∧wr.heap[bf+1]? =some (.cells [.slice al Tl.length cl,.slice ah Th.length ch,.slice ag Tg.length cg,.slice ax Tx.length cx,.slice (some ⟨bf,0,none⟩) 1 1].toArray 24)):=M.out.2
      rw[hdr]at M0
      obtain⟨g,ha⟩: ∃g,al=some ⟨g,0,none⟩:=a1m (by have:=M0.o.l.q.r.o;rw[←hLen]at this;exact this) (by omega)
      generalize hTi:Tl[k]=p at M0 hnext hLen hsm
      obtain⟨v,l⟩:=p
      generalize hA:(Tl.take k).map (fun p:Value×List Int=>(p.1,p.2.map (nam (ord S))))=TA at M0 hnext hAl hLen
      generalize hB:Tl.drop (k+1)=TB at M0 hnext hLen
      obtain⟨va,vc,hv⟩:=(M0.o.l.q.e (v,l) (by simp)).sl
      have hv:v= .slice va l.length vc:=hv
      subst hv
      have hown:wr.ownsRow (N 2) 25 1 (.slice al Tl.length cl) Tl.length ((TA++(.slice va l.length vc,l)::TB).flatMap fun p=>[p.1]):=(congrArg (fun n=>wr.ownsRow (N 2) 25 1 (.slice al Tl.length cl) n ((TA++(Value.slice va l.length vc,l)::TB).flatMap fun p=>[p.1])) hLen).mpr M0.o.l.q.r.o
      rw[ha]at hown
      have ck:wr.cell? ⟨g,k,none⟩=some (.slice va l.length vc):=by
       have h1:=hown.cellAt k (by omega)
       rw[h1]
       have h2:=a4e (F:=fun p:Value×List Int=>[p.1]) (k:=1) (fun p=>rfl) TA TB (p:=(Value.slice va l.length vc,l)) (j:=0) (by decide)
       rw[hAl,Nat.mul_one,Nat.add_zero]at h2
       exact h2
      have M1:Aside (Nv w b1 b2 bn bm VS y31 (ord S) N ⟨.slice ap pl.length cp,.slice ao To.length co,.slice al Tl.length cl,.slice ah Th.length ch,.slice ag Tg.length cg,.slice ax Tx.length cx,.slice af fd.length cf,.slice as' Ts.length cs,.slice aw Tw.length cw,.slice at' ts.length ct,pl,To1,(TA++(.slice va l.length vc,l)::TB),Th,Tg,Tx,fd,Ts,Tw,ts⟩ wr):=M0
      have hb1:=M1.out.h5;have hb2:=M1.out.h6;have hb3:=M1.out.lo (i:=2) (by decide)
      have hc:=H37.out bn bm (N 2) (N 3) (.slice al Tl.length cl) (.slice va l.length vc) l TA TB wr M1.out.m (by omega) (by omega) M1.out.o.l hsm
      have HNX:Hid (TA++(.slice va l.length vc,l.map (nam (ord S)))::TB=(Tl.take (k+1)).map (fun p:Value×List Int=>(p.1,p.2.map (nam (ord S))))++TB):=hnext
      have HB:Hid _:=hB
      have HA:Hid (al=some ⟨g,0,none⟩):=ha
      clear hdr htk hAl hLen hnext M0 hTi hA hB hown hsm M hb1 hb2 hb3
      subst ha
      go_wp2_with (go_at_fn 37;refine hc.mono ?_;rintro e V1 ⟨rfl,R1⟩;have M4:Aside (Nv w b1 b2 bn bm VS y31 (ord S) N ⟨.slice ap pl.length cp,.slice ao To.length co,.slice (some ⟨g,0,none⟩) Tl.length cl,.slice ah Th.length ch,.slice ag Tg.length cg,.slice ax Tx.length cx,.slice af fd.length cf,.slice as' Ts.length cs,.slice aw Tw.length cw,.slice at' ts.length ct,pl,To1,((Tl.take (k+1)).map (fun p:Value×List Int=>(p.1,p.2.map (nam (ord S))))++Tl.drop (k+1)),Th,Tg,Tx,fd,Ts,Tw,ts⟩ V1∧V1.heap[bf]? =some (.cells [.slice af fd.length cf].toArray 25)∧V1.heap[bf+1]? =some (.cells [.slice (some ⟨g,0,none⟩) Tl.length cl,.slice ah Th.length ch,.slice ag Tg.length cg,.slice ax Tx.length cx,.slice (some ⟨bf,0,none⟩) 1 1].toArray 24)):=(by
       have q:=M1.out.chL R1.out.2 R1.out.1
       have e9:=HNX.out
       rw[←HB.out]at q e9
       rw[e9]at q
       have hle:=M1.out.a.le (i:=3) (j:=10) (by decide) (Nat.le_refl _)
       have hNF:=NF.out
       exact⟨q,R1.out.2.out BK.out.1 (by omega),R1.out.2.out BK.out.2 (by omega)⟩);clear R1 M1 BK)
      go_roundg (Tl.length-(k+1))
      case measure=>omega
      case rel=>exact⟨k+1,by first|rfl|go_num,by omega,Nat.le_refl _,M4⟩
     ·have hltz: ¬(k:Int)<(Tl.length:Int):=by omega
      obtain rfl:k=Tl.length:=by omega
      have M5:Aside (Nv w b1 b2 bn bm VS y31 (ord S) N ⟨.slice ap pl.length cp,.slice ao To.length co,.slice al Tl.length cl,.slice ah Th.length ch,.slice ag Tg.length cg,.slice ax Tx.length cx,.slice af fd.length cf,.slice as' Ts.length cs,.slice aw Tw.length cw,.slice at' ts.length ct,pl,To1,(upj 0 1 (List.map (fun p:Value×List Int=>(p.1,p.2.map (nam (ord S))))) Tl),(upj 1 1 (List.map (fun p:Value×List Int=>(p.1,p.2.map (nam (ord S))))) Th),(upj 2 1 (List.map (fun p:Value×List Int=>(p.1,p.2.map (nam (ord S))))) Tg),(upj 3 1 (List.map (fun p:Value×List Int=>(p.1,p.2.map (nam (ord S))))) Tx),(upj 4 1 (List.map (nam (ord S))) fd),Ts,Tw,ts⟩ wr∧wr.heap[bf]? =some (.cells [.slice af fd.length cf].toArray 25)∧wr.heap[bf+1]? =some (.cells [.slice al Tl.length cl,.slice ah Th.length ch,.slice ag Tg.length cg,.slice ax Tx.length cx,.slice (some ⟨bf,0,none⟩) 1 1].toArray 24)):=(by have:=M.out;rw[List.take_length,List.drop_length,List.append_nil]at this;exact this)
      clear M
      go_wp2
      go_roundg 4
      case measure=>omega
      case rel=>exact⟨1,by first|rfl|go_num,by omega,by omega,M5⟩
   ·have cJ:=a0B (a0A M.out.2.2) (j:=1) (v:=.slice ah Th.length ch) rfl
    have M3:Aside (Nv w b1 b2 bn bm VS y31 (ord S) N ⟨.slice ap pl.length cp,.slice ao To.length co,.slice al Tl.length cl,.slice ah Th.length ch,.slice ag Tg.length cg,.slice ax Tx.length cx,.slice af fd.length cf,.slice as' Ts.length cs,.slice aw Tw.length cw,.slice at' ts.length ct,pl,To1,(Tl.map (fun p:Value×List Int=>(p.1,p.2.map (nam (ord S))))),((Th.take 0).map (fun p:Value×List Int=>(p.1,p.2.map (nam (ord S))))++Th.drop 0),Tg,Tx,fd,Ts,Tw,ts⟩ wr∧wr.heap[bf]? =some (.cells [.slice af fd.length cf].toArray 25)∧wr.heap[bf+1]? =some (.cells [.slice al Tl.length cl,.slice ah Th.length ch,.slice ag Tg.length cg,.slice ax Tx.length cx,.slice (some ⟨bf,0,none⟩) 1 1].toArray 24)):=M.out
    clear M
    go_wp2
    clear cJ
    go_loopg [72] Th.length (fun kx q wq=> ∃k:Nat,q= .int .i64 k∧k≤Th.length∧Th.length-k≤kx∧Aside (Nv w b1 b2 bn bm VS y31 (ord S) N ⟨.slice ap pl.length cp,.slice ao To.length co,.slice al Tl.length cl,.slice ah Th.length ch,.slice ag Tg.length cg,.slice ax Tx.length cx,.slice af fd.length cf,.slice as' Ts.length cs,.slice aw Tw.length cw,.slice at' ts.length ct,pl,To1,(Tl.map (fun p:Value×List Int=>(p.1,p.2.map (nam (ord S))))),((Th.take k).map (fun p:Value×List Int=>(p.1,p.2.map (nam (ord S))))++Th.drop k),Tg,Tx,fd,Ts,Tw,ts⟩ wq∧wq.heap[bf]? =some (.cells [.slice af fd.length cf].toArray 25)∧wq.heap[bf+1]? =some (.cells [.slice al Tl.length cl,.slice ah Th.length ch,.slice ag Tg.length cg,.slice ax Tx.length cx,.slice (some ⟨bf,0,none⟩) 1 1].toArray 24)))
    case atStart=>exact⟨0,rfl,Nat.zero_le _,Nat.le_refl _,M3⟩
    case round=>
     clear M3
     obtain⟨k,rfl,hk,hkk,M⟩:=hrel
     have wk:IntKind.i64.wrap ((k:Int)+1)=(k:Int)+1:=by rw[IntKind.wrap_i64];omega
     by_cases hlk:k<Th.length
     ·have hltz:(k:Int)<(Th.length:Int):=by omega
      have hdr:Th.drop k=Th[k]::Th.drop (k+1):=List.drop_eq_getElem_cons hlk
      have htk:Th.take (k+1)=Th.take k++ [Th[k]]:=List.take_succ_eq_append_getElem hlk
      have hAl:((Th.take k).map (fun p:Value×List Int=>(p.1,p.2.map (nam (ord S))))).length=k:=by rw[List.length_map,List.length_take];omega
      have hnext:(Th.take k).map (fun p:Value×List Int=>(p.1,p.2.map (nam (ord S))))++(Th[k].1,Th[k].2.map (nam (ord S)))::Th.drop (k+1)=(Th.take (k+1)).map (fun p:Value×List Int=>(p.1,p.2.map (nam (ord S))))++Th.drop (k+1):=by rw[htk,List.map_append,List.append_assoc];rfl
      have hLen:Th.length=((Th.take k).map (fun p:Value×List Int=>(p.1,p.2.map (nam (ord S))))++Th[k]::Th.drop (k+1)).length:=by rw[List.length_append,hAl,List.length_cons,List.length_drop];omega
      have hsm:=NTH.out Th[k] (List.getElem_mem hlk)
      have M0:=M.out.1
      have BK:Aside (wr.heap[bf]? =some (.cells [.slice af fd.length cf].toArray 25)∧wr.heap[bf+1]? =some (.cells [.slice al Tl.length cl,.slice ah Th.length ch,.slice ag Tg.length cg,.slice ax Tx.length cx,.slice (some ⟨bf,0,none⟩) 1 1].toArray 24)):=M.out.2
      rw[hdr]at M0
      obtain⟨g,ha⟩: ∃g,ah=some ⟨g,0,none⟩:=a1m (by have:=M0.o.h.q.r.o;rw[←hLen]at this;exact this) (by omega)
      generalize hTi:Th[k]=p at M0 hnext hLen hsm
      obtain⟨v,l⟩:=p
      generalize hA:(Th.take k).map (fun p:Value×List Int=>(p.1,p.2.map (nam (ord S))))=TA at M0 hnext hAl hLen
      generalize hB:Th.drop (k+1)=TB at M0 hnext hLen
      obtain⟨va,vc,hv⟩:=(M0.o.h.q.e (v,l) (by simp)).sl
      have hv:v= .slice va l.length vc:=hv
      subst hv
      have hown:wr.ownsRow (N 3) 25 1 (.slice ah Th.length ch) Th.length ((TA++(.slice va l.length vc,l)::TB).flatMap fun p=>[p.1]):=(congrArg (fun n=>wr.ownsRow (N 3) 25 1 (.slice ah Th.length ch) n ((TA++(Value.slice va l.length vc,l)::TB).flatMap fun p=>[p.1])) hLen).mpr M0.o.h.q.r.o
      rw[ha]at hown
      have ck:wr.cell? ⟨g,k,none⟩=some (.slice va l.length vc):=by
       have h1:=hown.cellAt k (by omega)
       rw[h1]
       have h2:=a4e (F:=fun p:Value×List Int=>[p.1]) (k:=1) (fun p=>rfl) TA TB (p:=(Value.slice va l.length vc,l)) (j:=0) (by decide)
       rw[hAl,Nat.mul_one,Nat.add_zero]at h2
       exact h2
      have M1:Aside (Nv w b1 b2 bn bm VS y31 (ord S) N ⟨.slice ap pl.length cp,.slice ao To.length co,.slice al Tl.length cl,.slice ah Th.length ch,.slice ag Tg.length cg,.slice ax Tx.length cx,.slice af fd.length cf,.slice as' Ts.length cs,.slice aw Tw.length cw,.slice at' ts.length ct,pl,To1,(Tl.map (fun p:Value×List Int=>(p.1,p.2.map (nam (ord S))))),(TA++(.slice va l.length vc,l)::TB),Tg,Tx,fd,Ts,Tw,ts⟩ wr):=M0
      have hb1:=M1.out.h5;have hb2:=M1.out.h6;have hb3:=M1.out.lo (i:=3) (by decide)
      have hc:=H37.out bn bm (N 3) (N 4) (.slice ah Th.length ch) (.slice va l.length vc) l TA TB wr M1.out.m (by omega) (by omega) M1.out.o.h hsm
      have HNX:Hid (TA++(.slice va l.length vc,l.map (nam (ord S)))::TB=(Th.take (k+1)).map (fun p:Value×List Int=>(p.1,p.2.map (nam (ord S))))++TB):=hnext
      have HB:Hid _:=hB
      have HA:Hid (ah=some ⟨g,0,none⟩):=ha
      clear hdr htk hAl hLen hnext M0 hTi hA hB hown hsm M hb1 hb2 hb3
      subst ha
      go_wp2_with (go_at_fn 37;refine hc.mono ?_;rintro e V1 ⟨rfl,R1⟩;have M4:Aside (Nv w b1 b2 bn bm VS y31 (ord S) N ⟨.slice ap pl.length cp,.slice ao To.length co,.slice al Tl.length cl,.slice (some ⟨g,0,none⟩) Th.length ch,.slice ag Tg.length cg,.slice ax Tx.length cx,.slice af fd.length cf,.slice as' Ts.length cs,.slice aw Tw.length cw,.slice at' ts.length ct,pl,To1,(Tl.map (fun p:Value×List Int=>(p.1,p.2.map (nam (ord S))))),((Th.take (k+1)).map (fun p:Value×List Int=>(p.1,p.2.map (nam (ord S))))++Th.drop (k+1)),Tg,Tx,fd,Ts,Tw,ts⟩ V1∧V1.heap[bf]? =some (.cells [.slice af fd.length cf].toArray 25)∧V1.heap[bf+1]? =some (.cells [.slice al Tl.length cl,.slice (some ⟨g,0,none⟩) Th.length ch,.slice ag Tg.length cg,.slice ax Tx.length cx,.slice (some ⟨bf,0,none⟩) 1 1].toArray 24)):=(by
       have q:=M1.out.chH R1.out.2 R1.out.1
       have e9:=HNX.out
       rw[←HB.out]at q e9
       rw[e9]at q
       have hle:=M1.out.a.le (i:=4) (j:=10) (by decide) (Nat.le_refl _)
       have hNF:=NF.out
       exact⟨q,R1.out.2.out BK.out.1 (by omega),R1.out.2.out BK.out.2 (by omega)⟩);clear R1 M1 BK)
      go_roundg (Th.length-(k+1))
      case measure=>omega
      case rel=>exact⟨k+1,by first|rfl|go_num,by omega,Nat.le_refl _,M4⟩
     ·have hltz: ¬(k:Int)<(Th.length:Int):=by omega
      obtain rfl:k=Th.length:=by omega
      have M5:Aside (Nv w b1 b2 bn bm VS y31 (ord S) N ⟨.slice ap pl.length cp,.slice ao To.length co,.slice al Tl.length cl,.slice ah Th.length ch,.slice ag Tg.length cg,.slice ax Tx.length cx,.slice af fd.length cf,.slice as' Ts.length cs,.slice aw Tw.length cw,.slice at' ts.length ct,pl,To1,(upj 0 2 (List.map (fun p:Value×List Int=>(p.1,p.2.map (nam (ord S))))) Tl),(upj 1 2 (List.map (fun p:Value×List Int=>(p.1,p.2.map (nam (ord S))))) Th),(upj 2 2 (List.map (fun p:Value×List Int=>(p.1,p.2.map (nam (ord S))))) Tg),(upj 3 2 (List.map (fun p:Value×List Int=>(p.1,p.2.map (nam (ord S))))) Tx),(upj 4 2 (List.map (nam (ord S))) fd),Ts,Tw,ts⟩ wr∧wr.heap[bf]? =some (.cells [.slice af fd.length cf].toArray 25)∧wr.heap[bf+1]? =some (.cells [.slice al Tl.length cl,.slice ah Th.length ch,.slice ag Tg.length cg,.slice ax Tx.length cx,.slice (some ⟨bf,0,none⟩) 1 1].toArray 24)):=(by have:=M.out;rw[List.take_length,List.drop_length,List.append_nil]at this;exact this)
      clear M
      go_wp2
      go_roundg 3
      case measure=>omega
      case rel=>exact⟨2,by first|rfl|go_num,by omega,by omega,M5⟩
   ·have cJ:=a0B (a0A M.out.2.2) (j:=2) (v:=.slice ag Tg.length cg) rfl
    have M3:Aside (Nv w b1 b2 bn bm VS y31 (ord S) N ⟨.slice ap pl.length cp,.slice ao To.length co,.slice al Tl.length cl,.slice ah Th.length ch,.slice ag Tg.length cg,.slice ax Tx.length cx,.slice af fd.length cf,.slice as' Ts.length cs,.slice aw Tw.length cw,.slice at' ts.length ct,pl,To1,(Tl.map (fun p:Value×List Int=>(p.1,p.2.map (nam (ord S))))),(Th.map (fun p:Value×List Int=>(p.1,p.2.map (nam (ord S))))),((Tg.take 0).map (fun p:Value×List Int=>(p.1,p.2.map (nam (ord S))))++Tg.drop 0),Tx,fd,Ts,Tw,ts⟩ wr∧wr.heap[bf]? =some (.cells [.slice af fd.length cf].toArray 25)∧wr.heap[bf+1]? =some (.cells [.slice al Tl.length cl,.slice ah Th.length ch,.slice ag Tg.length cg,.slice ax Tx.length cx,.slice (some ⟨bf,0,none⟩) 1 1].toArray 24)):=M.out
    clear M
    go_wp2
    clear cJ
    go_loopg [72] Tg.length (fun kx q wq=> ∃k:Nat,q= .int .i64 k∧k≤Tg.length∧Tg.length-k≤kx∧Aside (Nv w b1 b2 bn bm VS y31 (ord S) N ⟨.slice ap pl.length cp,.slice ao To.length co,.slice al Tl.length cl,.slice ah Th.length ch,.slice ag Tg.length cg,.slice ax Tx.length cx,.slice af fd.length cf,.slice as' Ts.length cs,.slice aw Tw.length cw,.slice at' ts.length ct,pl,To1,(Tl.map (fun p:Value×List Int=>(p.1,p.2.map (nam (ord S))))),(Th.map (fun p:Value×List Int=>(p.1,p.2.map (nam (ord S))))),((Tg.take k).map (fun p:Value×List Int=>(p.1,p.2.map (nam (ord S))))++Tg.drop k),Tx,fd,Ts,Tw,ts⟩ wq∧wq.heap[bf]? =some (.cells [.slice af fd.length cf].toArray 25)∧wq.heap[bf+1]? =some (.cells [.slice al Tl.length cl,.slice ah Th.length ch,.slice ag Tg.length cg,.slice ax Tx.length cx,.slice (some ⟨bf,0,none⟩) 1 1].toArray 24)))
    case atStart=>exact⟨0,rfl,Nat.zero_le _,Nat.le_refl _,M3⟩
    case round=>
     clear M3
     obtain⟨k,rfl,hk,hkk,M⟩:=hrel
     have wk:IntKind.i64.wrap ((k:Int)+1)=(k:Int)+1:=by rw[IntKind.wrap_i64];omega
     by_cases hlk:k<Tg.length
     ·have hltz:(k:Int)<(Tg.length:Int):=by omega
      have hdr:Tg.drop k=Tg[k]::Tg.drop (k+1):=List.drop_eq_getElem_cons hlk
      have htk:Tg.take (k+1)=Tg.take k++ [Tg[k]]:=List.take_succ_eq_append_getElem hlk
      have hAl:((Tg.take k).map (fun p:Value×List Int=>(p.1,p.2.map (nam (ord S))))).length=k:=by rw[List.length_map,List.length_take];omega
      have hnext:(Tg.take k).map (fun p:Value×List Int=>(p.1,p.2.map (nam (ord S))))++(Tg[k].1,Tg[k].2.map (nam (ord S)))::Tg.drop (k+1)=(Tg.take (k+1)).map (fun p:Value×List Int=>(p.1,p.2.map (nam (ord S))))++Tg.drop (k+1):=by rw[htk,List.map_append,List.append_assoc];rfl
      have hLen:Tg.length=((Tg.take k).map (fun p:Value×List Int=>(p.1,p.2.map (nam (ord S))))++Tg[k]::Tg.drop (k+1)).length:=by rw[List.length_append,hAl,List.length_cons,List.length_drop];omega
      have hsm:=NTG.out Tg[k] (List.getElem_mem hlk)
      have M0:=M.out.1
      have BK:Aside (wr.heap[bf]? =some (.cells [.slice af fd.length cf].toArray 25)∧wr.heap[bf+1]? =some (.cells [.slice al Tl.length cl,.slice ah Th.length ch,.slice ag Tg.length cg,.slice ax Tx.length cx,.slice (some ⟨bf,0,none⟩) 1 1].toArray 24)):=M.out.2
      rw[hdr]at M0
      obtain⟨g,ha⟩: ∃g,ag=some ⟨g,0,none⟩:=a1m (by have:=M0.o.g.q.r.o;rw[←hLen]at this;exact this) (by omega)
      generalize hTi:Tg[k]=p at M0 hnext hLen hsm
      obtain⟨v,l⟩:=p
      generalize hA:(Tg.take k).map (fun p:Value×List Int=>(p.1,p.2.map (nam (ord S))))=TA at M0 hnext hAl hLen
      generalize hB:Tg.drop (k+1)=TB at M0 hnext hLen
      obtain⟨va,vc,hv⟩:=(M0.o.g.q.e (v,l) (by simp)).sl
      have hv:v= .slice va l.length vc:=hv
      subst hv
      have hown:wr.ownsRow (N 4) 25 1 (.slice ag Tg.length cg) Tg.length ((TA++(.slice va l.length vc,l)::TB).flatMap fun p=>[p.1]):=(congrArg (fun n=>wr.ownsRow (N 4) 25 1 (.slice ag Tg.length cg) n ((TA++(Value.slice va l.length vc,l)::TB).flatMap fun p=>[p.1])) hLen).mpr M0.o.g.q.r.o
      rw[ha]at hown
      have ck:wr.cell? ⟨g,k,none⟩=some (.slice va l.length vc):=by
       have h1:=hown.cellAt k (by omega)
       rw[h1]
       have h2:=a4e (F:=fun p:Value×List Int=>[p.1]) (k:=1) (fun p=>rfl) TA TB (p:=(Value.slice va l.length vc,l)) (j:=0) (by decide)
       rw[hAl,Nat.mul_one,Nat.add_zero]at h2
       exact h2
      have M1:Aside (Nv w b1 b2 bn bm VS y31 (ord S) N ⟨.slice ap pl.length cp,.slice ao To.length co,.slice al Tl.length cl,.slice ah Th.length ch,.slice ag Tg.length cg,.slice ax Tx.length cx,.slice af fd.length cf,.slice as' Ts.length cs,.slice aw Tw.length cw,.slice at' ts.length ct,pl,To1,(Tl.map (fun p:Value×List Int=>(p.1,p.2.map (nam (ord S))))),(Th.map (fun p:Value×List Int=>(p.1,p.2.map (nam (ord S))))),(TA++(.slice va l.length vc,l)::TB),Tx,fd,Ts,Tw,ts⟩ wr):=M0
      have hb1:=M1.out.h5;have hb2:=M1.out.h6;have hb3:=M1.out.lo (i:=4) (by decide)
      have hc:=H37.out bn bm (N 4) (N 5) (.slice ag Tg.length cg) (.slice va l.length vc) l TA TB wr M1.out.m (by omega) (by omega) M1.out.o.g hsm
      have HNX:Hid (TA++(.slice va l.length vc,l.map (nam (ord S)))::TB=(Tg.take (k+1)).map (fun p:Value×List Int=>(p.1,p.2.map (nam (ord S))))++TB):=hnext
      have HB:Hid _:=hB
      have HA:Hid (ag=some ⟨g,0,none⟩):=ha
      clear hdr htk hAl hLen hnext M0 hTi hA hB hown hsm M hb1 hb2 hb3
      subst ha
      go_wp2_with (go_at_fn 37;refine hc.mono ?_;rintro e V1 ⟨rfl,R1⟩;have M4:Aside (Nv w b1 b2 bn bm VS y31 (ord S) N ⟨.slice ap pl.length cp,.slice ao To.length co,.slice al Tl.length cl,.slice ah Th.length ch,.slice (some ⟨g,0,none⟩) Tg.length cg,.slice ax Tx.length cx,.slice af fd.length cf,.slice as' Ts.length cs,.slice aw Tw.length cw,.slice at' ts.length ct,pl,To1,(Tl.map (fun p:Value×List Int=>(p.1,p.2.map (nam (ord S))))),(Th.map (fun p:Value×List Int=>(p.1,p.2.map (nam (ord S))))),((Tg.take (k+1)).map (fun p:Value×List Int=>(p.1,p.2.map (nam (ord S))))++Tg.drop (k+1)),Tx,fd,Ts,Tw,ts⟩ V1∧V1.heap[bf]? =some (.cells [.slice af fd.length cf].toArray 25)∧V1.heap[bf+1]? =some (.cells [.slice al Tl.length cl,.slice ah Th.length ch,.slice (some ⟨g,0,none⟩) Tg.length cg,.slice ax Tx.length cx,.slice (some ⟨bf,0,none⟩) 1 1].toArray 24)):=(by
       have q:=M1.out.chG R1.out.2 R1.out.1
       have e9:=HNX.out
       rw[←HB.out]at q e9
       rw[e9]at q
       have hle:=M1.out.a.le (i:=5) (j:=10) (by decide) (Nat.le_refl _)
       have hNF:=NF.out
       exact⟨q,R1.out.2.out BK.out.1 (by omega),R1.out.2.out BK.out.2 (by omega)⟩);clear R1 M1 BK)
      go_roundg (Tg.length-(k+1))
      case measure=>omega
      case rel=>exact⟨k+1,by first|rfl|go_num,by omega,Nat.le_refl _,M4⟩
     ·have hltz: ¬(k:Int)<(Tg.length:Int):=by omega
      obtain rfl:k=Tg.length:=by omega
      have M5:Aside (Nv w b1 b2 bn bm VS y31 (ord S) N ⟨.slice ap pl.length cp,.slice ao To.length co,.slice al Tl.length cl,.slice ah Th.length ch,.slice ag Tg.length cg,.slice ax Tx.length cx,.slice af fd.length cf,.slice as' Ts.length cs,.slice aw Tw.length cw,.slice at' ts.length ct,pl,To1,(upj 0 3 (List.map (fun p:Value×List Int=>(p.1,p.2.map (nam (ord S))))) Tl),(upj 1 3 (List.map (fun p:Value×List Int=>(p.1,p.2.map (nam (ord S))))) Th),(upj 2 3 (List.map (fun p:Value×List Int=>(p.1,p.2.map (nam (ord S))))) Tg),(upj 3 3 (List.map (fun p:Value×List Int=>(p.1,p.2.map (nam (ord S))))) Tx),(upj 4 3 (List.map (nam (ord S))) fd),Ts,Tw,ts⟩ wr∧wr.heap[bf]? =some (.cells [.slice af fd.length cf].toArray 25)∧wr.heap[bf+1]? =some (.cells [.slice al Tl.length cl,.slice ah Th.length ch,.slice ag Tg.length cg,.slice ax Tx.length cx,.slice (some ⟨bf,0,none⟩) 1 1].toArray 24)):=(by have:=M.out;rw[List.take_length,List.drop_length,List.append_nil]at this;exact this)
      clear M
      go_wp2
      go_roundg 2
      case measure=>omega
      case rel=>exact⟨3,by first|rfl|go_num,by omega,by omega,M5⟩
   ·have cJ:=a0B (a0A M.out.2.2) (j:=3) (v:=.slice ax Tx.length cx) rfl
    have M3:Aside (Nv w b1 b2 bn bm VS y31 (ord S) N ⟨.slice ap pl.length cp,.slice ao To.length co,.slice al Tl.length cl,.slice ah Th.length ch,.slice ag Tg.length cg,.slice ax Tx.length cx,.slice af fd.length cf,.slice as' Ts.length cs,.slice aw Tw.length cw,.slice at' ts.length ct,pl,To1,(Tl.map (fun p:Value×List Int=>(p.1,p.2.map (nam (ord S))))),(Th.map (fun p:Value×List Int=>(p.1,p.2.map (nam (ord S))))),(Tg.map (fun p:Value×List Int=>(p.1,p.2.map (nam (ord S))))),((Tx.take 0).map (fun p:Value×List Int=>(p.1,p.2.map (nam (ord S))))++Tx.drop 0),fd,Ts,Tw,ts⟩ wr∧wr.heap[bf]? =some (.cells [.slice af fd.length cf].toArray 25)∧wr.heap[bf+1]? =some (.cells [.slice al Tl.length cl,.slice ah Th.length ch,.slice ag Tg.length cg,.slice ax Tx.length cx,.slice (some ⟨bf,0,none⟩) 1 1].toArray 24)):=M.out
    clear M
    go_wp2
    clear cJ
    go_loopg [72] Tx.length (fun kx q wq=> ∃k:Nat,q= .int .i64 k∧k≤Tx.length∧Tx.length-k≤kx∧Aside (Nv w b1 b2 bn bm VS y31 (ord S) N ⟨.slice ap pl.length cp,.slice ao To.length co,.slice al Tl.length cl,.slice ah Th.length ch,.slice ag Tg.length cg,.slice ax Tx.length cx,.slice af fd.length cf,.slice as' Ts.length cs,.slice aw Tw.length cw,.slice at' ts.length ct,pl,To1,(Tl.map (fun p:Value×List Int=>(p.1,p.2.map (nam (ord S))))),(Th.map (fun p:Value×List Int=>(p.1,p.2.map (nam (ord S))))),(Tg.map (fun p:Value×List Int=>(p.1,p.2.map (nam (ord S))))),((Tx.take k).map (fun p:Value×List Int=>(p.1,p.2.map (nam (ord S))))++Tx.drop k),fd,Ts,Tw,ts⟩ wq∧wq.heap[bf]? =some (.cells [.slice af fd.length cf].toArray 25)∧wq.heap[bf+1]? =some (.cells [.slice al Tl.length cl,.slice ah Th.length ch,.slice ag Tg.length cg,.slice ax Tx.length cx,.slice (some ⟨bf,0,none⟩) 1 1].toArray 24)))
    case atStart=>exact⟨0,rfl,Nat.zero_le _,Nat.le_refl _,M3⟩
    case round=>
     clear M3
     obtain⟨k,rfl,hk,hkk,M⟩:=hrel
     have wk:IntKind.i64.wrap ((k:Int)+1)=(k:Int)+1:=by rw[IntKind.wrap_i64];omega
     by_cases hlk:k<Tx.length
     ·have hltz:(k:Int)<(Tx.length:Int):=by omega
      have hdr:Tx.drop k=Tx[k]::Tx.drop (k+1):=List.drop_eq_getElem_cons hlk
      have htk:Tx.take (k+1)=Tx.take k++ [Tx[k]]:=List.take_succ_eq_append_getElem hlk
      have hAl:((Tx.take k).map (fun p:Value×List Int=>(p.1,p.2.map (nam (ord S))))).length=k:=by rw[List.length_map,List.length_take];omega
      have hnext:(Tx.take k).map (fun p:Value×List Int=>(p.1,p.2.map (nam (ord S))))++(Tx[k].1,Tx[k].2.map (nam (ord S)))::Tx.drop (k+1)=(Tx.take (k+1)).map (fun p:Value×List Int=>(p.1,p.2.map (nam (ord S))))++Tx.drop (k+1):=by rw[htk,List.map_append,List.append_assoc];rfl
      have hLen:Tx.length=((Tx.take k).map (fun p:Value×List Int=>(p.1,p.2.map (nam (ord S))))++Tx[k]::Tx.drop (k+1)).length:=by rw[List.length_append,hAl,List.length_cons,List.length_drop];omega
      have hsm:=NTX.out Tx[k] (List.getElem_mem hlk)
      have M0:=M.out.1
      have BK:Aside (wr.heap[bf]? =some (.cells [.slice af fd.length cf].toArray 25)∧wr.heap[bf+1]? =some (.cells [.slice al Tl.length cl,.slice ah Th.length ch,.slice ag Tg.length cg,.slice ax Tx.length cx,.slice (some ⟨bf,0,none⟩) 1 1].toArray 24)):=M.out.2
      rw[hdr]at M0
      obtain⟨g,ha⟩: ∃g,ax=some ⟨g,0,none⟩:=a1m (by have:=M0.o.x.q.r.o;rw[←hLen]at this;exact this) (by omega)
      generalize hTi:Tx[k]=p at M0 hnext hLen hsm
      obtain⟨v,l⟩:=p
      generalize hA:(Tx.take k).map (fun p:Value×List Int=>(p.1,p.2.map (nam (ord S))))=TA at M0 hnext hAl hLen
      generalize hB:Tx.drop (k+1)=TB at M0 hnext hLen
      obtain⟨va,vc,hv⟩:=(M0.o.x.q.e (v,l) (by simp)).sl
      have hv:v= .slice va l.length vc:=hv
      subst hv
      have hown:wr.ownsRow (N 5) 25 1 (.slice ax Tx.length cx) Tx.length ((TA++(.slice va l.length vc,l)::TB).flatMap fun p=>[p.1]):=(congrArg (fun n=>wr.ownsRow (N 5) 25 1 (.slice ax Tx.length cx) n ((TA++(Value.slice va l.length vc,l)::TB).flatMap fun p=>[p.1])) hLen).mpr M0.o.x.q.r.o
      rw[ha]at hown
      have ck:wr.cell? ⟨g,k,none⟩=some (.slice va l.length vc):=by
       have h1:=hown.cellAt k (by omega)
       rw[h1]
       have h2:=a4e (F:=fun p:Value×List Int=>[p.1]) (k:=1) (fun p=>rfl) TA TB (p:=(Value.slice va l.length vc,l)) (j:=0) (by decide)
       rw[hAl,Nat.mul_one,Nat.add_zero]at h2
       exact h2
      have M1:Aside (Nv w b1 b2 bn bm VS y31 (ord S) N ⟨.slice ap pl.length cp,.slice ao To.length co,.slice al Tl.length cl,.slice ah Th.length ch,.slice ag Tg.length cg,.slice ax Tx.length cx,.slice af fd.length cf,.slice as' Ts.length cs,.slice aw Tw.length cw,.slice at' ts.length ct,pl,To1,(Tl.map (fun p:Value×List Int=>(p.1,p.2.map (nam (ord S))))),(Th.map (fun p:Value×List Int=>(p.1,p.2.map (nam (ord S))))),(Tg.map (fun p:Value×List Int=>(p.1,p.2.map (nam (ord S))))),(TA++(.slice va l.length vc,l)::TB),fd,Ts,Tw,ts⟩ wr):=M0
      have hb1:=M1.out.h5;have hb2:=M1.out.h6;have hb3:=M1.out.lo (i:=5) (by decide)
      have hc:=H37.out bn bm (N 5) (N 6) (.slice ax Tx.length cx) (.slice va l.length vc) l TA TB wr M1.out.m (by omega) (by omega) M1.out.o.x hsm
      have HNX:Hid (TA++(.slice va l.length vc,l.map (nam (ord S)))::TB=(Tx.take (k+1)).map (fun p:Value×List Int=>(p.1,p.2.map (nam (ord S))))++TB):=hnext
      have HB:Hid _:=hB
      have HA:Hid (ax=some ⟨g,0,none⟩):=ha
      clear hdr htk hAl hLen hnext M0 hTi hA hB hown hsm M hb1 hb2 hb3
      subst ha
      go_wp2_with (go_at_fn 37;refine hc.mono ?_;rintro e V1 ⟨rfl,R1⟩;have M4:Aside (Nv w b1 b2 bn bm VS y31 (ord S) N ⟨.slice ap pl.length cp,.slice ao To.length co,.slice al Tl.length cl,.slice ah Th.length ch,.slice ag Tg.length cg,.slice (some ⟨g,0,none⟩) Tx.length cx,.slice af fd.length cf,.slice as' Ts.length cs,.slice aw Tw.length cw,.slice at' ts.length ct,pl,To1,(Tl.map (fun p:Value×List Int=>(p.1,p.2.map (nam (ord S))))),(Th.map (fun p:Value×List Int=>(p.1,p.2.map (nam (ord S))))),(Tg.map (fun p:Value×List Int=>(p.1,p.2.map (nam (ord S))))),((Tx.take (k+1)).map (fun p:Value×List Int=>(p.1,p.2.map (nam (ord S))))++Tx.drop (k+1)),fd,Ts,Tw,ts⟩ V1∧V1.heap[bf]? =some (.cells [.slice af fd.length cf].toArray 25)∧V1.heap[bf+1]? =some (.cells [.slice al Tl.length cl,.slice ah Th.length ch,.slice ag Tg.length cg,.slice (some ⟨g,0,none⟩) Tx.length cx,.slice (some ⟨bf,0,none⟩) 1 1].toArray 24)):=(by
       have q:=M1.out.chX R1.out.2 R1.out.1
       have e9:=HNX.out
       rw[←HB.out]at q e9
       rw[e9]at q
       have hle:=M1.out.a.le (i:=6) (j:=10) (by decide) (Nat.le_refl _)
       have hNF:=NF.out
       exact⟨q,R1.out.2.out BK.out.1 (by omega),R1.out.2.out BK.out.2 (by omega)⟩);clear R1 M1 BK)
      go_roundg (Tx.length-(k+1))
      case measure=>omega
      case rel=>exact⟨k+1,by first|rfl|go_num,by omega,Nat.le_refl _,M4⟩
     ·have hltz: ¬(k:Int)<(Tx.length:Int):=by omega
      obtain rfl:k=Tx.length:=by omega
      have M5:Aside (Nv w b1 b2 bn bm VS y31 (ord S) N ⟨.slice ap pl.length cp,.slice ao To.length co,.slice al Tl.length cl,.slice ah Th.length ch,.slice ag Tg.length cg,.slice ax Tx.length cx,.slice af fd.length cf,.slice as' Ts.length cs,.slice aw Tw.length cw,.slice at' ts.length ct,pl,To1,(upj 0 4 (List.map (fun p:Value×List Int=>(p.1,p.2.map (nam (ord S))))) Tl),(upj 1 4 (List.map (fun p:Value×List Int=>(p.1,p.2.map (nam (ord S))))) Th),(upj 2 4 (List.map (fun p:Value×List Int=>(p.1,p.2.map (nam (ord S))))) Tg),(upj 3 4 (List.map (fun p:Value×List Int=>(p.1,p.2.map (nam (ord S))))) Tx),(upj 4 4 (List.map (nam (ord S))) fd),Ts,Tw,ts⟩ wr∧wr.heap[bf]? =some (.cells [.slice af fd.length cf].toArray 25)∧wr.heap[bf+1]? =some (.cells [.slice al Tl.length cl,.slice ah Th.length ch,.slice ag Tg.length cg,.slice ax Tx.length cx,.slice (some ⟨bf,0,none⟩) 1 1].toArray 24)):=(by have:=M.out;rw[List.take_length,List.drop_length,List.append_nil]at this;exact this)
      clear M
      go_wp2
      go_roundg 1
      case measure=>omega
      case rel=>exact⟨4,by first|rfl|go_num,by omega,by omega,M5⟩
   ·have cJ:=a0B (a0A M.out.2.2) (j:=4) (v:=.slice (some ⟨bf,0,none⟩) 1 1) rfl
    have M3:Aside (Nv w b1 b2 bn bm VS y31 (ord S) N ⟨.slice ap pl.length cp,.slice ao To.length co,.slice al Tl.length cl,.slice ah Th.length ch,.slice ag Tg.length cg,.slice ax Tx.length cx,.slice af fd.length cf,.slice as' Ts.length cs,.slice aw Tw.length cw,.slice at' ts.length ct,pl,To1,(Tl.map (fun p:Value×List Int=>(p.1,p.2.map (nam (ord S))))),(Th.map (fun p:Value×List Int=>(p.1,p.2.map (nam (ord S))))),(Tg.map (fun p:Value×List Int=>(p.1,p.2.map (nam (ord S))))),(Tx.map (fun p:Value×List Int=>(p.1,p.2.map (nam (ord S))))),(upj 0 0 (List.map (nam (ord S))) fd),Ts,Tw,ts⟩ wr∧wr.heap[bf]? =some (.cells [.slice af fd.length cf].toArray 25)∧wr.heap[bf+1]? =some (.cells [.slice al Tl.length cl,.slice ah Th.length ch,.slice ag Tg.length cg,.slice ax Tx.length cx,.slice (some ⟨bf,0,none⟩) 1 1].toArray 24)):=M.out
    clear M
    go_wp2
    clear cJ
    go_loopg [72] 1 (fun kx q wq=> ∃k:Nat,q= .int .i64 k∧k≤1∧1-k≤kx∧Aside (Nv w b1 b2 bn bm VS y31 (ord S) N ⟨.slice ap pl.length cp,.slice ao To.length co,.slice al Tl.length cl,.slice ah Th.length ch,.slice ag Tg.length cg,.slice ax Tx.length cx,.slice af fd.length cf,.slice as' Ts.length cs,.slice aw Tw.length cw,.slice at' ts.length ct,pl,To1,(Tl.map (fun p:Value×List Int=>(p.1,p.2.map (nam (ord S))))),(Th.map (fun p:Value×List Int=>(p.1,p.2.map (nam (ord S))))),(Tg.map (fun p:Value×List Int=>(p.1,p.2.map (nam (ord S))))),(Tx.map (fun p:Value×List Int=>(p.1,p.2.map (nam (ord S))))),(upj 0 k (List.map (nam (ord S))) fd),Ts,Tw,ts⟩ wq∧wq.heap[bf]? =some (.cells [.slice af fd.length cf].toArray 25)∧wq.heap[bf+1]? =some (.cells [.slice al Tl.length cl,.slice ah Th.length ch,.slice ag Tg.length cg,.slice ax Tx.length cx,.slice (some ⟨bf,0,none⟩) 1 1].toArray 24)))
    case atStart=>exact⟨0,rfl,Nat.zero_le _,Nat.le_refl _,M3⟩
    case round=>
     clear M3
     obtain⟨k,rfl,hk,hkk,M⟩:=hrel
     obtain rfl|rfl:k=0∨k=1:=by omega
     ·have M1:Aside (Nv w b1 b2 bn bm VS y31 (ord S) N ⟨.slice ap pl.length cp,.slice ao To.length co,.slice al Tl.length cl,.slice ah Th.length ch,.slice ag Tg.length cg,.slice ax Tx.length cx,.slice af fd.length cf,.slice as' Ts.length cs,.slice aw Tw.length cw,.slice at' ts.length ct,pl,To1,(Tl.map (fun p:Value×List Int=>(p.1,p.2.map (nam (ord S))))),(Th.map (fun p:Value×List Int=>(p.1,p.2.map (nam (ord S))))),(Tg.map (fun p:Value×List Int=>(p.1,p.2.map (nam (ord S))))),(Tx.map (fun p:Value×List Int=>(p.1,p.2.map (nam (ord S))))),fd,Ts,Tw,ts⟩ wr∧wr.heap[bf]? =some (.cells [.slice af fd.length cf].toArray 25)∧wr.heap[bf+1]? =some (.cells [.slice al Tl.length cl,.slice ah Th.length ch,.slice ag Tg.length cg,.slice ax Tx.length cx,.slice (some ⟨bf,0,none⟩) 1 1].toArray 24)):=M.out
      have cf0:=a0B (a0A M1.out.2.1) (j:=0) (v:=.slice af fd.length cf) rfl
      have hb1:=M1.out.1.h5;have hb2:=M1.out.1.h6;have hb3:=M1.out.1.lo (i:=6) (by decide)
      have hc:=H37F.out bn bm (N 6) (N 7) (.slice af fd.length cf) fd wr M1.out.1.m (by omega) (by omega) M1.out.1.o.f nfd
      clear M hb1 hb2 hb3
      go_wp2_with (go_at_fn 37;refine hc.mono ?_;rintro e V1 ⟨rfl,R1⟩;have M4:Aside (Nv w b1 b2 bn bm VS y31 (ord S) N ⟨.slice ap pl.length cp,.slice ao To.length co,.slice al Tl.length cl,.slice ah Th.length ch,.slice ag Tg.length cg,.slice ax Tx.length cx,.slice af fd.length cf,.slice as' Ts.length cs,.slice aw Tw.length cw,.slice at' ts.length ct,pl,To1,(Tl.map (fun p:Value×List Int=>(p.1,p.2.map (nam (ord S))))),(Th.map (fun p:Value×List Int=>(p.1,p.2.map (nam (ord S))))),(Tg.map (fun p:Value×List Int=>(p.1,p.2.map (nam (ord S))))),(Tx.map (fun p:Value×List Int=>(p.1,p.2.map (nam (ord S))))),(upj 0 1 (List.map (nam (ord S))) fd),Ts,Tw,ts⟩ V1∧V1.heap[bf]? =some (.cells [.slice af fd.length cf].toArray 25)∧V1.heap[bf+1]? =some (.cells [.slice al Tl.length cl,.slice ah Th.length ch,.slice ag Tg.length cg,.slice ax Tx.length cx,.slice (some ⟨bf,0,none⟩) 1 1].toArray 24)):=(by
       have q:=M1.out.1.chF R1.out.2 R1.out.1
       have hle:=M1.out.1.a.le (i:=7) (j:=10) (by decide) (Nat.le_refl _)
       have hNF:=NF.out
       exact⟨q,R1.out.2.out M1.out.2.1 (by omega),R1.out.2.out M1.out.2.2 (by omega)⟩);clear R1 M1)
      go_roundg 0
      case measure=>omega
      case rel=>exact⟨1,by first|rfl|go_num,by omega,by omega,M4⟩
     ·have M5:Aside (Nv w b1 b2 bn bm VS y31 (ord S) N ⟨.slice ap pl.length cp,.slice ao To.length co,.slice al Tl.length cl,.slice ah Th.length ch,.slice ag Tg.length cg,.slice ax Tx.length cx,.slice af fd.length cf,.slice as' Ts.length cs,.slice aw Tw.length cw,.slice at' ts.length ct,pl,To1,(upj 0 5 (List.map (fun p:Value×List Int=>(p.1,p.2.map (nam (ord S))))) Tl),(upj 1 5 (List.map (fun p:Value×List Int=>(p.1,p.2.map (nam (ord S))))) Th),(upj 2 5 (List.map (fun p:Value×List Int=>(p.1,p.2.map (nam (ord S))))) Tg),(upj 3 5 (List.map (fun p:Value×List Int=>(p.1,p.2.map (nam (ord S))))) Tx),(upj 4 5 (List.map (nam (ord S))) fd),Ts,Tw,ts⟩ wr∧wr.heap[bf]? =some (.cells [.slice af fd.length cf].toArray 25)∧wr.heap[bf+1]? =some (.cells [.slice al Tl.length cl,.slice ah Th.length ch,.slice ag Tg.length cg,.slice ax Tx.length cx,.slice (some ⟨bf,0,none⟩) 1 1].toArray 24)):=M.out
      clear M
      go_wp2
      go_roundg 0
      case measure=>omega
      case rel=>exact⟨5,by first|rfl|go_num,by omega,by omega,M5⟩
  ·obtain rfl:j=5:=by omega
   have M1:Aside (Nv w b1 b2 bn bm VS y31 (ord S) N ⟨.slice ap pl.length cp,.slice ao To.length co,.slice al Tl.length cl,.slice ah Th.length ch,.slice ag Tg.length cg,.slice ax Tx.length cx,.slice af fd.length cf,.slice as' Ts.length cs,.slice aw Tw.length cw,.slice at' ts.length ct,pl,To1,(Tl.map (fun p:Value×List Int=>(p.1,p.2.map (nam (ord S))))),(Th.map (fun p:Value×List Int=>(p.1,p.2.map (nam (ord S))))),(Tg.map (fun p:Value×List Int=>(p.1,p.2.map (nam (ord S))))),(Tx.map (fun p:Value×List Int=>(p.1,p.2.map (nam (ord S))))),(fd.map (nam (ord S))),Ts,Tw,ts⟩ wr):=M.out.1
   clear M
   have hb1:=M1.out.h5;have hb2:=M1.out.h6;have hb3:=M1.out.lo (i:=7) (by decide)
   have c7:=CS.out wr M1.out.c1
   have hc:=H38.out bn bm (N 7) (N 8) (.slice as' Ts.length cs) Ts wr M1.out.m (by omega) (by omega) M1.out.o.s NTS.out.1 NTS.out.2
   clear hb1 hb2 hb3
   go_upto_region 19 with(go_at_fn 38;refine hc.mono ?_;rintro e V1 ⟨rfl,R1⟩;have M2:Aside (Nv w b1 b2 bn bm VS y31 (ord S) N ⟨.slice ap pl.length cp,.slice ao To.length co,.slice al Tl.length cl,.slice ah Th.length ch,.slice ag Tg.length cg,.slice ax Tx.length cx,.slice af fd.length cf,.slice as' Ts.length cs,.slice aw Tw.length cw,.slice at' ts.length ct,pl,To1,(Tl.map (fun p:Value×List Int=>(p.1,p.2.map (nam (ord S))))),(Th.map (fun p:Value×List Int=>(p.1,p.2.map (nam (ord S))))),(Tg.map (fun p:Value×List Int=>(p.1,p.2.map (nam (ord S))))),(Tx.map (fun p:Value×List Int=>(p.1,p.2.map (nam (ord S))))),(fd.map (nam (ord S))),(Ts.map (fun p:Value×Itm=>(p.1,nmI (nam (ord S)) p.2))),Tw,ts⟩ V1):=M1.out.chS R1.out.2 R1.out.1;clear R1)
   clear hc c7 M1
   have hb1:=M2.out.h5;have hb2:=M2.out.h6;have hb3:=M2.out.lo (i:=8) (by decide)
   have c8:=CW.out V1 M2.out.c1
   have hc:=H38.out bn bm (N 8) (N 9) (.slice aw Tw.length cw) Tw V1 M2.out.m (by omega) (by omega) M2.out.o.w NTW.out.1 NTW.out.2
   clear hb1 hb2 hb3
   go_upto_region 20 with(go_at_fn 38;refine hc.mono ?_;rintro e V2 ⟨rfl,R1⟩;have M3:Aside (Nv w b1 b2 bn bm VS y31 (ord S) N ⟨.slice ap pl.length cp,.slice ao To.length co,.slice al Tl.length cl,.slice ah Th.length ch,.slice ag Tg.length cg,.slice ax Tx.length cx,.slice af fd.length cf,.slice as' Ts.length cs,.slice aw Tw.length cw,.slice at' ts.length ct,pl,To1,(Tl.map (fun p:Value×List Int=>(p.1,p.2.map (nam (ord S))))),(Th.map (fun p:Value×List Int=>(p.1,p.2.map (nam (ord S))))),(Tg.map (fun p:Value×List Int=>(p.1,p.2.map (nam (ord S))))),(Tx.map (fun p:Value×List Int=>(p.1,p.2.map (nam (ord S))))),(fd.map (nam (ord S))),(Ts.map (fun p:Value×Itm=>(p.1,nmI (nam (ord S)) p.2))),(Tw.map (fun p:Value×Itm=>(p.1,nmI (nam (ord S)) p.2))),ts⟩ V2):=M2.out.chW R1.out.2 R1.out.1;clear R1)
   clear hc c8 M2
   have c9:=CC.out V2 M3.out.c1
   have f9:=(a0A M3.out.c1 19 (by rw[List.size_toArray,HVSL.out];decide)).2
   rw[Nat.zero_add]at f9
   have hc:=H34.out bn bm S.cast.obj V2 M3.out.m
   have M4:Aside (Nv w b1 b2 bn bm (VS.set 19 (.int .i64 (nam (ord S) S.cast.obj))) y31 (ord S) N ⟨.slice ap pl.length cp,.slice ao To.length co,.slice al Tl.length cl,.slice ah Th.length ch,.slice ag Tg.length cg,.slice ax Tx.length cx,.slice af fd.length cf,.slice as' Ts.length cs,.slice aw Tw.length cw,.slice at' ts.length ct,pl,To1,(Tl.map (fun p:Value×List Int=>(p.1,p.2.map (nam (ord S))))),(Th.map (fun p:Value×List Int=>(p.1,p.2.map (nam (ord S))))),(Tg.map (fun p:Value×List Int=>(p.1,p.2.map (nam (ord S))))),(Tx.map (fun p:Value×List Int=>(p.1,p.2.map (nam (ord S))))),(fd.map (nam (ord S))),(Ts.map (fun p:Value×Itm=>(p.1,nmI (nam (ord S)) p.2))),(Tw.map (fun p:Value×Itm=>(p.1,nmI (nam (ord S)) p.2))),ts⟩ (V2.setCell ⟨b1,19,none⟩ (.int .i64 (nam (ord S) S.cast.obj)))):=M3.out.set 19 _
   go_upto_region 21 with(go_at_fn 34;refine hc.mono ?_;rintro e w2 ⟨rfl,hw⟩;obtain rfl:=hw.symm)
   clear hc c9 f9 M3
   generalize V2.setCell ⟨b1,19,none⟩ (.int .i64 (nam (ord S) S.cast.obj))=V3 at M4 ⊢
   have hb1:=M4.out.h5;have hb2:=M4.out.h6;have hb3:=M4.out.lo (i:=9) (by decide)
   have c10:=a0B (a0A M4.out.c1) (j:=21) (v:=.slice at' ts.length ct) (by rw[←HVS.out];rfl)
   have hc:=H39.out bn bm (N 9) (N 10) (.slice at' ts.length ct) ts V3 M4.out.m (by omega) (by omega) M4.out.o.t nts
   clear hb1 hb2 hb3
   go_upto_region 22 with(go_at_fn 39;refine hc.mono ?_;rintro e V4 ⟨rfl,R1⟩;have M5:Aside (Nv w b1 b2 bn bm (VS.set 19 (.int .i64 (nam (ord S) S.cast.obj))) y31 (ord S) N ⟨.slice ap pl.length cp,.slice ao To.length co,.slice al Tl.length cl,.slice ah Th.length ch,.slice ag Tg.length cg,.slice ax Tx.length cx,.slice af fd.length cf,.slice as' Ts.length cs,.slice aw Tw.length cw,.slice at' ts.length ct,pl,To1,(Tl.map (fun p:Value×List Int=>(p.1,p.2.map (nam (ord S))))),(Th.map (fun p:Value×List Int=>(p.1,p.2.map (nam (ord S))))),(Tg.map (fun p:Value×List Int=>(p.1,p.2.map (nam (ord S))))),(Tx.map (fun p:Value×List Int=>(p.1,p.2.map (nam (ord S))))),(fd.map (nam (ord S))),(Ts.map (fun p:Value×Itm=>(p.1,nmI (nam (ord S)) p.2))),(Tw.map (fun p:Value×Itm=>(p.1,nmI (nam (ord S)) p.2))),(ts.map (fun p:Int×Int=>(p.1,nam (ord S) p.2)))⟩ V4):=M4.out.chT R1.out.2 R1.out.1;clear R1)
   clear hc c10 M4
   have c11:=a0B (a0A M5.out.c1) (j:=15) (v:=.int .i64 S.next) (by rw[←HVS.out];rfl)
   have f11:=(a0A M5.out.c1 15 (by rw[List.size_toArray,List.length_set,HVSL.out];decide)).2
   rw[Nat.zero_add]at f11
   have M6:Aside (Nv w b1 b2 bn bm ((VS.set 19 (.int .i64 (nam (ord S) S.cast.obj))).set 15 (.int .i64 0)) y31 (ord S) N ⟨.slice ap pl.length cp,.slice ao To.length co,.slice al Tl.length cl,.slice ah Th.length ch,.slice ag Tg.length cg,.slice ax Tx.length cx,.slice af fd.length cf,.slice as' Ts.length cs,.slice aw Tw.length cw,.slice at' ts.length ct,pl,To1,(Tl.map (fun p:Value×List Int=>(p.1,p.2.map (nam (ord S))))),(Th.map (fun p:Value×List Int=>(p.1,p.2.map (nam (ord S))))),(Tg.map (fun p:Value×List Int=>(p.1,p.2.map (nam (ord S))))),(Tx.map (fun p:Value×List Int=>(p.1,p.2.map (nam (ord S))))),(fd.map (nam (ord S))),(Ts.map (fun p:Value×Itm=>(p.1,nmI (nam (ord S)) p.2))),(Tw.map (fun p:Value×Itm=>(p.1,nmI (nam (ord S)) p.2))),(ts.map (fun p:Int×Int=>(p.1,nam (ord S) p.2)))⟩ (V4.setCell ⟨b1,15,none⟩ (.int .i64 0))):=M5.out.set 15 _
   go_upto_region 23 with fail
   clear c11 f11 M5
   generalize V4.setCell ⟨b1,15,none⟩ (.int .i64 0)=V5 at M6 ⊢
   have RR:=HR.out To1 V5 HTO.out M6.out
   have SFl:((VS.set 19 (.int .i64 (nam (ord S) S.cast.obj))).set 15 (.int .i64 0)).length=k31:=by rw[List.length_set,List.length_set,HVSL.out,HK1.out]
   have SF1: ∀v∈((VS.set 19 (.int .i64 (nam (ord S) S.cast.obj))).set 15 (.int .i64 0)),v.oneCell'=true:=fun v hv=>by
    rcases List.mem_or_eq_of_mem_set hv with hv|rfl
    ·rcases List.mem_or_eq_of_mem_set hv with hv|rfl
     ·exact HVS1.out v hv
     ·rfl
    ·rfl
   generalize ((VS.set 19 (.int .i64 (nam (ord S) S.cast.obj))).set 15 (.int .i64 0))=SF at M6 SFl SF1 RR
   have RRA:Aside _:=RR
   have lB:=a0I P (a0A M6.out.c1) SFl
   have sB:=a0P P (a0A M6.out.c2) SF (by rw[SFl,HK1.out];exact HY1.out) SF1
   have b2F:=a0Y M6.out.c2 SF (by rw[SFl,HK1.out];exact HY1.out)
   have lF:=a0I P (a0A b2F) SFl
   clear b2F M6 SF1 RR
   go_wp2
   refine bodyPost_ret (v:=.agg SF.toArray) (by simp[results,go_sem,Try.results10,a31,z31,lF]) rfl ?_
   exact RRA.out
end Go.Proofs.Ytcblehiddfnafaa.canonSame
