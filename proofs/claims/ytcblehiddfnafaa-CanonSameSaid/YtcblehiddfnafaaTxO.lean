/-
  Chapter 28: the program's items, walked.
-/
import Derived.Test.YtcblehiddfnafaaTxN
import Derived.Deep.RegionLaw
import Derived.Deep.CutBlock
import Derived.Deep.CutRange
namespace Go.Proofs.Ytcblehiddfnafaa.canonSame
open Go.Shelf Go.RowKit Go.Lib Go.Sort
def b0O(T:List (Value×Itm)):List Value:=T.flatMap fun p=>a0f p.2 p.1
theorem a7y(l m:List (Value×Itm)):b0O (l++m)=b0O l++b0O m:=by
 unfold b0O
 rw[List.flatMap_append]
theorem a5j(l:List (Value×Itm)):(b0O l).length=l.length*7:=a1W (f:=fun p:Value×Itm=>a0f p.2 p.1) (fun _=>rfl) l
theorem b5v(A:List (Value×Itm))(p:Value×Itm)(B:List (Value×Itm))(j:Nat)(hj:j<7):(b0O (A++p::B))[A.length*7+j]? =(a0f p.2 p.1)[j]? :=by
 rw[a7y,List.getElem?_append_right (by rw[a5j];omega),a5j,show A.length*7+j-A.length*7=j by omega]
 show(a0f p.2 p.1++b0O B)[j]? =_
 rw[List.getElem?_append_left (by show j<7;exact hj)]
theorem b5u(A:List (Value×Itm))(v:Value)(x x':Itm)(B:List (Value×Itm))(j:Nat)(hj:j<7)(u:Value)(hx:(a0f x v).set j u=a0f x' v):(b0O (A++(v,x)::B)).set (A.length*7+j) u=b0O (A++(v,x')::B):=by
 rw[a7y,a7y,List.set_append_right _ _ (by rw[a5j];omega),a5j,show A.length*7+j-A.length*7=j by omega]
 congr 1
 show(a0f x v++b0O B).set j u=a0f x' v++b0O B
 rw[List.set_append_left _ _ (by show j<7;exact hj),hx]
structure Iq(w:World)(base hi:Nat)(lv:Value)(T:List (Value×Itm))(W:World):Prop where
 o:W.ownsRow base 43 7 lv T.length (b0O T)
 e: ∀p∈T,W.ownsRow base 45 2 p.1 p.2.ts.length (a3F p.2.ts)
 p:T.Pairwise fun p q=>p.1.ownBlock=none∨p.1.ownBlock≠q.1.ownBlock
 h: ∀b,lv.ownBlock=some b→b<hi
 he: ∀p∈T,∀b,p.1.ownBlock=some b→b<hi
 os:W.os=w.os
 tape:W.tape=w.tape
 output:W.output=w.output
 size:w.heap.size≤W.heap.size
 fr: ∀k,k<w.heap.size→(k<base∨hi≤k)→W.heap[k]? =w.heap[k]?
theorem Iq.nmr{w:World}{base hi bn bm m:Nat}{lv:Value}{T:List (Value×Itm)}{W:World}{F:Int→Option Int}(h:Iq w base hi lv T W)(hN:Nmr w bn bm m F)(h1:bn<base)(h2:bm<base):Nmr W bn bm m F:=
 hN.keep (h.fr _ (a0L hN.c) (.inl h1)) (h.fr _ hN.m.lt (.inl h2))
theorem Iq.gr{w:World}{base hi:Nat}{lv:Value}{T:List (Value×Itm)}{W W':World}(h:Iq w base hi lv T W)(g:Gr W W'):Iq w base hi lv T W':=by
 have gg:=a0i g
 exact⟨h.o.kept gg (by cases hv:lv.ownBlock<;>simp),fun p hp=>(h.e p hp).kept gg (by cases hv:p.1.ownBlock<;>simp),h.p,h.h,h.he,gg.os.trans h.os,gg.tape.trans h.tape,gg.output.trans h.output,Nat.le_trans h.size gg.size,fun k hk hc=>(gg.block k (Nat.lt_of_lt_of_le hk h.size) (by simp)).trans (h.fr k hk hc)⟩
theorem Iq.store{w:World}{base hi g n c:Nat}{A B:List (Value×Itm)}{v:Value}{x x':Itm}{W:World}(h:Iq w base hi (.slice (some ⟨g,0,none⟩) n c) (A++(v,x)::B) W)(hn:n=(A++(v,x)::B).length)(j:Nat)(hj:j<7)(u:Value)(hx:(a0f x v).set j u=a0f x' v)(ht:x'.ts=x.ts):Iq w base hi (.slice (some ⟨g,0,none⟩) n c) (A++(v,x')::B) (W.setCell ⟨g,A.length*7+j,none⟩ u):=by
 subst hn
 obtain⟨a,b⟩:=h.o.stored (A.length*7+j) u
 rw[b5u A v x x' B j hj u hx]at a
 have hl:(A++(v,x)::B).length=(A++(v,x')::B).length:=by simp
 have gb:=(h.o.lt g rfl)
 refine⟨by rw[←hl];exact a,fun p hp=> ?_, ?_,h.h,fun p hp=> ?_,b.os.trans h.os,b.tape.trans h.tape,b.output.trans h.output,Nat.le_trans h.size b.size,fun k hk hc=> ?_⟩
 ·have key:W.ownsRow base 45 2 p.1 p.2.ts.length (a3F p.2.ts):=by
   rcases List.mem_append.1 hp with hp|hp
   ·exact h.e p (List.mem_append_left _ hp)
   ·rcases List.mem_cons.1 hp with rfl|hp
    ·have:=h.e (v,x) (by simp)
     show W.ownsRow base 45 2 v x'.ts.length (a3F x'.ts)
     rw[ht]
     exact this
    ·exact h.e p (List.mem_append_right _ (List.mem_cons_of_mem _ hp))
  exact key.kept b (a0p (by decide) key h.o)
 ·have:=h.p
  rw[List.pairwise_append]at this ⊢
  obtain⟨p1,p2,p3⟩:=this
  rw[List.pairwise_cons]at p2 ⊢
  refine⟨p1,⟨p2.1,p2.2⟩,fun a ha b hb=> ?_⟩
  rcases List.mem_cons.1 hb with rfl|hb
  ·exact p3 a ha (v,x) (by simp)
  ·exact p3 a ha b (List.mem_cons_of_mem _ hb)
 ·rcases List.mem_append.1 hp with hp|hp
  ·exact h.he p (List.mem_append_left _ hp)
  ·rcases List.mem_cons.1 hp with rfl|hp
   ·exact h.he (v,x) (by simp)
   ·exact h.he p (List.mem_append_right _ (List.mem_cons_of_mem _ hp))
 ·rw[b.block k (Nat.lt_of_lt_of_le hk h.size) (fun e=>by
   simp only[Option.some.injEq]at e
   have:=h.h g rfl
   omega)]
  exact h.fr k hk hc
theorem Iq.inner{w:World}{base hi:Nat}{lv:Value}{A B:List (Value×Itm)}{v:Value}{x:Itm}{l':List (Int×Int)}{W W':World}(h:Iq w base hi lv (A++(v,x)::B) W)(hl:l'.length=x.ts.length)(hi':Ip W base 45 2 v x.ts.length (a3F l') W'):Iq w base hi lv (A++(v,{x with ts:=l'})::B) W':=by
 have hlen:(A++(v,{x with ts:=l'})::B).length=(A++(v,x)::B).length:=by simp
 have hV:b0O (A++(v,{x with ts:=l'})::B)=b0O (A++(v,x)::B):=by
  unfold b0O
  rw[List.flatMap_append,List.flatMap_append]
  rfl
 have hp:=h.p
 rw[List.pairwise_append,List.pairwise_cons]at hp
 obtain⟨p1,⟨p2,p3⟩,p4⟩:=hp
 refine⟨?_,fun p hp=> ?_, ?_,h.h,fun p hp=> ?_,hi'.g.os.trans h.os,hi'.g.tape.trans h.tape,hi'.g.output.trans h.output,Nat.le_trans h.size hi'.g.size,fun k hk hc=> ?_⟩
 ·rw[hlen,hV]
  exact h.o.kept hi'.g (a0p (by decide) h.o (h.e (v,x) (by simp)))
 ·rcases List.mem_append.1 hp with hp|hp
  ·refine(h.e p (List.mem_append_left _ hp)).kept hi'.g ?_
   exact p4 p hp (v,x) (by simp)
  ·rcases List.mem_cons.1 hp with rfl|hp
   ·show W'.ownsRow base 45 2 v l'.length (a3F l')
    rw[hl]
    exact hi'.o
   ·refine(h.e p (List.mem_append_right _ (List.mem_cons_of_mem _ hp))).kept hi'.g ?_
    rcases p2 p hp with e|e
    ·cases hv:p.1.ownBlock with
     |none=>exact .inl rfl
     |some b=>
      refine .inr ?_
      show some b≠v.ownBlock
      have e:v.ownBlock=none:=e
      rw[e]
      simp
    ·exact .inr fun e'=>e e'.symm
 ·rw[List.pairwise_append,List.pairwise_cons]
  refine⟨p1,⟨p2,p3⟩,fun a ha b hb=> ?_⟩
  rcases List.mem_cons.1 hb with rfl|hb
  ·exact p4 a ha (v,x) (by simp)
  ·exact p4 a ha b (List.mem_cons_of_mem _ hb)
 ·rcases List.mem_append.1 hp with hp|hp
  ·exact h.he p (List.mem_append_left _ hp)
  ·rcases List.mem_cons.1 hp with rfl|hp
   ·exact h.he (v,x) (by simp)
   ·exact h.he p (List.mem_append_right _ (List.mem_cons_of_mem _ hp))
 ·rw[hi'.g.block k (Nat.lt_of_lt_of_le hk h.size) (fun e=>by
   have h1:=(hi'.o.lt k e.symm).1
   have h2:=h.he (v,x) (by simp) k e.symm
   omega)]
  exact h.fr k hk hc
set_option maxHeartbeats 8000000 in
set_option maxRecDepth 100000 in
theorem a9F{bn bm m base tp:Nat}{F:Int→Option Int}(v:Value)(T:List (Value×Itm))(w:World)(hN:Nmr w bn bm m F)(h1:bn<base)(h2:bm<base)(hq:Iq w base tp v T w)(hn:T.length≤900)(hin: ∀p∈T,p.2.ts.length≤900):
  Calls Try.prog 38 #[.pointer (some ⟨bn,0,none⟩),v] w fun e w'=>e= .returned (.tuple #[])∧Aside (Iq w base tp v (T.map fun p=>(p.1,nmI (nmF F) p.2)) w'):=by
 have mixed:=a1L.mixed
 obtain⟨a,c,rfl⟩:=a0o hq.o
 have e34:=enters_of Try.func34 (by kernel_rfl) rfl
 have e39:=enters_of Try.func39 (by kernel_rfl) rfl
 have I0:Aside (Iq w base tp (.slice a T.length c) ((T.take 0).map (fun p=>(p.1,nmI (nmF F) p.2))++T.drop 0) w):=hq
 have HN:Aside _:=hN
 have H1:Aside _:=h1
 have H2:Aside _:=h2
 have HIN:Aside _:=hin
 clear hN h1 h2 hq hin
 go_enter Try.func38,Try.ntmps38
 go_wp2
 go_loopg [7] T.length (fun kx s7 wr=> ∃i:Nat,s7= .int .i64 i∧i≤T.length∧T.length-i≤kx∧Aside (Iq w base tp (.slice a T.length c) ((T.take i).map (fun p=>(p.1,nmI (nmF F) p.2))++T.drop i) wr))
 case atStart=>exact⟨0,rfl,Nat.zero_le _,Nat.le_refl _,I0⟩
 case round=>
  clear I0
  obtain⟨i,rfl,hi,hkx,I1⟩:=hrel
  have wj:IntKind.i64.wrap ((i:Int)+1)=(i:Int)+1:=by rw[IntKind.wrap_i64];omega
  by_cases hlt:i<T.length
  ·have hltz:(i:Int)<(T.length:Int):=by omega
   have hdr:T.drop i=T[i]::T.drop (i+1):=List.drop_eq_getElem_cons hlt
   have htk:T.take (i+1)=T.take i++ [T[i]]:=List.take_succ_eq_append_getElem hlt
   have hAl:((T.take i).map (fun p=>(p.1,nmI (nmF F) p.2))).length=i:=by rw[List.length_map,List.length_take];omega
   have hLen:T.length=((T.take i).map (fun p=>(p.1,nmI (nmF F) p.2))++T[i]::T.drop (i+1)).length:=by rw[List.length_append,hAl,List.length_cons,List.length_drop];omega
   have hnext:(T.take i).map (fun p=>(p.1,nmI (nmF F) p.2))++(T[i].1,nmI (nmF F) T[i].2)::T.drop (i+1)=(T.take (i+1)).map (fun p=>(p.1,nmI (nmF F) p.2))++T.drop (i+1):=by
    rw[htk,List.map_append,List.append_assoc]
    rfl
   have I2:=I1.out
   rw[hdr]at I2
   have hts:=HIN.out _ (List.getElem_mem hlt)
   obtain⟨g,ha⟩: ∃g,a=some ⟨g,0,none⟩:=a1m (by
    have:=I2.o
    rw[←hLen]at this
    exact this) (by omega)
   subst ha
   generalize hTi:T[i]=p at I2 hnext hts hLen
   obtain⟨v,x⟩:=p
   generalize hA:(T.take i).map (fun p=>(p.1,nmI (nmF F) p.2))=A at I2 hnext hAl hLen
   generalize hB:T.drop (i+1)=B at I2 hnext hLen
   have HBQ:Hid _:=hB
   have HNX:Hid _:=hnext
   have HAL:Hid _:=hAl
   have HLEN:Hid _:=hLen
   have HTS:Aside (x.ts.length≤900):=hts
   have I3:Aside (Iq w base tp (.slice (some ⟨g,0,none⟩) T.length c) (A++(v,x)::B) wr):=I2
   clear hdr htk hAl hLen hnext I1 I2 hts hTi hA hB
   obtain⟨va,vc,hv⟩:=a0o (I3.out.e (v,x) (by simp))
   have hv:v= .slice va x.ts.length vc:=hv
   subst hv
   have cells: ∀W T',Iq w base tp (.slice (some ⟨g,0,none⟩) T.length c) T' W→T'.length=T.length→ ∀(A' B':List (Value×Itm)) (p:Value×Itm),T'=A'++p::B'→A'.length=i→ ∀j,j<7→W.cell? ⟨g,i*7+j,none⟩=(a0f p.2 p.1)[j]? ∧W.frozen? ⟨g,i*7+j,none⟩=false:=by
    rintro W T' hq hl A' B' p rfl hA' j hj
    have ho:=hq.o
    rw[hl]at ho
    refine⟨(ho.cellAt (i*7+j) (by omega)).trans ?_,ho.frozenAt _⟩
    rw[←hA']
    exact b5v A' p B' j hj
   obtain⟨x0,x1,x2,x3,x4,x5,xt⟩:=x
   have D0:Aside (Iq w base tp (.slice (some ⟨g,0,none⟩) T.length c) (A++(.slice va xt.length vc,⟨x0,x1,x2,x3,x4,x5,xt⟩)::B) wr.drew):=I3.out.gr ((Gr.refl wr).drew)
   have c0:=(cells _ _ D0.out HLEN.out.symm A B _ rfl HAL.out 0 (by decide))
   have c3:=(cells _ _ D0.out HLEN.out.symm A B _ rfl HAL.out 3 (by decide))
   have c0a:wr.cell? ⟨g,i*7,none⟩=some (.int .i64 x0):=(cells _ _ I3.out HLEN.out.symm A B _ rfl HAL.out 0 (by decide)).1
   have c3a:wr.cell? ⟨g,i*7+3,none⟩=some (.int .i64 x3):=(cells _ _ I3.out HLEN.out.symm A B _ rfl HAL.out 3 (by decide)).1
   have f0a:wr.frozen? ⟨g,i*7,none⟩=false:=(cells _ _ I3.out HLEN.out.symm A B _ rfl HAL.out 0 (by decide)).2
   have f3a:wr.frozen? ⟨g,i*7+3,none⟩=false:=(cells _ _ I3.out HLEN.out.symm A B _ rfl HAL.out 3 (by decide)).2
   clear c0 c3
   have hof: ∀k W,Iq w base tp (.slice (some ⟨g,0,none⟩) T.length c) (A++(.slice va xt.length vc,⟨x0,x1,x2,x3,x4,x5,xt⟩)::B) W→Calls Try.prog 34 #[.pointer (some ⟨bn,0,none⟩),.int .i64 k] W fun e w'=>e= .returned (.int .i64 (nmF F k))∧w'=W:=fun k W hW=>a5h k W (hW.nmr HN.out H1.out H2.out)
   have k0:=hof x0 wr.drew D0.out
   have k3:=hof x3 wr.drew D0.out
   go_upto_region 3 with fail
   go_cut [4]from 10 to 31 (fun s4 wc=>s4= .int .i64 i∧Aside (Iq w base tp (.slice (some ⟨g,0,none⟩) T.length c) (A++(.slice va xt.length vc,⟨nmF F x0,x1,x2,nmF F x3,x4,x5,xt⟩)::B) wc))
   case first=>
    have D1:=D0.out.store HLEN.out (x':=⟨nmF F x0,x1,x2,x3,x4,x5,xt⟩) 0 (by decide) (.int .i64 (nmF F x0)) rfl rfl
    have D2:=D1.store (HLEN.out.trans (by simp)) (x':=⟨nmF F x0,x1,x2,nmF F x3,x4,x5,xt⟩) 3 (by decide) (.int .i64 (nmF F x3)) rfl rfl
    rw[HAL.out,Nat.add_zero]at D2
    have DF:Aside (Iq w base tp (.slice (some ⟨g,0,none⟩) T.length c) (A++(.slice va xt.length vc,⟨nmF F x0,x1,x2,nmF F x3,x4,x5,xt⟩)::B) ((wr.drew.setCell ⟨g,i*7,none⟩ (.int .i64 (nmF F x0))).setCell ⟨g,i*7+3,none⟩ (.int .i64 (nmF F x3)))):=D2
    have K0:Aside (Calls Try.prog 34 #[.pointer (some ⟨bn,0,none⟩),.int .i64 x0] wr.drew fun e w'=>e= .returned (.int .i64 (nmF F x0))∧w'=wr.drew):=k0
    have K3:Aside (Calls Try.prog 34 #[.pointer (some ⟨bn,0,none⟩),.int .i64 x3] wr.drew fun e w'=>e= .returned (.int .i64 (nmF F x3))∧w'=wr.drew):=k3
    clear D1 D2 k0 k3 hof cells D0
    refine wp_region_held_drew (S:=fun _=>True) mixed trivial (fun hHeld=> ?_)
    refine wtk (i:=0) (v:=.slice (some ⟨g,0,none⟩) T.length c) hHeld ?_ ?_
    ·intro W hW
     clear hW hHeld
     go_simp
    simp only[Act.put,px]
    refine wtk (i:=1) (v:=.int .i64 i) hHeld ?_ ?_
    ·intro W hW
     clear hW hHeld
     go_simp
    simp only[Act.put,px]
    refine wtk (i:=2) (v:=.slice (some ⟨g,0,none⟩) T.length c) hHeld ?_ ?_
    ·intro W hW
     clear hW hHeld
     go_simp
    simp only[Act.put,px]
    refine wtk (i:=3) (v:=.int .i64 i) hHeld ?_ ?_
    ·intro W hW
     clear hW hHeld
     go_simp
    simp only[Act.put,px]
    refine wtk (i:=4) (v:=.pointer (some ⟨bn,0,none⟩)) hHeld ?_ ?_
    ·intro W hW
     clear hW hHeld
     go_simp
    simp only[Act.put,px]
    refine wtk (i:=5) (v:=.slice (some ⟨g,0,none⟩) T.length c) hHeld ?_ ?_
    ·intro W hW
     clear hW hHeld
     go_simp
    simp only[Act.put,px]
    refine wtk (i:=6) (v:=.int .i64 i) hHeld ?_ ?_
    ·intro W hW
     clear hW hHeld
     go_simp
    simp only[Act.put,px]
    refine wtk (i:=7) (v:=.pointer (some ⟨g,i*7,none⟩)) hHeld ?_ ?_
    ·intro W hW
     clear hW hHeld
     go_simp
    simp only[Act.put,px]
    refine wtk (i:=8) (v:=.pointer (some ⟨g,i*7,none⟩)) hHeld ?_ ?_
    ·intro W hW
     clear hW hHeld
     go_simp
    simp only[Act.put,px]
    refine wtk (i:=11) (v:=.pointer (some ⟨bn,0,none⟩)) hHeld ?_ ?_
    ·intro W hW
     clear hW hHeld
     go_simp
    simp only[Act.put,px]
    refine wtk (i:=12) (v:=.slice (some ⟨g,0,none⟩) T.length c) hHeld ?_ ?_
    ·intro W hW
     clear hW hHeld
     go_simp
    simp only[Act.put,px]
    refine wtk (i:=13) (v:=.int .i64 i) hHeld ?_ ?_
    ·intro W hW
     clear hW hHeld
     go_simp
    simp only[Act.put,px]
    refine wtk (i:=14) (v:=.pointer (some ⟨g,i*7,none⟩)) hHeld ?_ ?_
    ·intro W hW
     clear hW hHeld
     go_simp
    simp only[Act.put,px]
    refine wtk (i:=15) (v:=.pointer (some ⟨g,i*7+3,none⟩)) hHeld ?_ ?_
    ·intro W hW
     clear hW hHeld
     go_simp
    simp only[Act.put,px]
    refine wpAnyH_ready (rs:=[9,16]) (by kernel_rfl) (by simp) ?_
    refine AllReadyH.cons rfl (fun K hK=> ?_) (AllReadyH.cons rfl (fun K hK=> ?_) AllReadyH.nil)
    ·skip
     go_simp
     refine hK.out _ _ trivial (fun hHeld=> ?_)
     clear hK K
     refine wpAnyH_ready (rs:=[10,16]) (by kernel_rfl) (by simp) ?_
     refine AllReadyH.cons rfl (fun K hK=> ?_) (AllReadyH.cons rfl (fun K hK=> ?_) AllReadyH.nil)
     ·skip
      go_simp
      refine K0.out.mono ?_
      rintro e w2 ⟨rfl,hw⟩
      obtain rfl:=hw.symm
      refine hK.out _ _ trivial (fun hHeld=> ?_)
      clear hK K
      refine wrd 16 fun K hK=> ?_
      go_simp
      refine hK.out _ _ trivial (fun hHeld=> ?_)
      clear hK K
      refine wrd 17 fun K hK=> ?_
      go_simp
      refine K3.out.mono ?_
      rintro e w2 ⟨rfl,hw⟩
      obtain rfl:=hw.symm
      refine hK.out _ _ trivial (fun hHeld=> ?_)
      clear hK K
      refine wrd 18 fun K hK=> ?_
      go_simp
      refine hK.out _ _ trivial (fun hHeld=> ?_)
      clear hK K
      refine wrd 19 fun K hK=> ?_
      go_simp
      refine hK.out _ _ trivial (fun hHeld=> ?_)
      clear hK K
      refine wrd 20 fun K hK=> ?_
      go_simp
      refine hK.out _ _ trivial (fun hHeld=> ?_)
      clear hK K
      refine wrd 21 fun K hK=> ?_
      go_simp
      refine hK.out _ _ trivial (fun hHeld=> ?_)
      clear hK K
      refine wrd 22 fun K hK=> ?_
      go_simp
      refine hK.out _ _ trivial (fun hHeld=> ?_)
      clear hK K
      refine wrd 23 fun K hK=> ?_
      go_simp
      refine hK.out _ _ trivial (fun hHeld=> ?_)
      clear hK K
      refine wpAnyH_done (by kernel_rfl) ?_ _
      go_wp2
      go_meet
      case rel=>exact⟨rfl,DF⟩
     ·skip
      go_simp
      refine hK.out _ _ trivial (fun hHeld=> ?_)
      clear hK K
      refine wrd 10 fun K hK=> ?_
      go_simp
      refine K0.out.mono ?_
      rintro e w2 ⟨rfl,hw⟩
      obtain rfl:=hw.symm
      refine hK.out _ _ trivial (fun hHeld=> ?_)
      clear hK K
      refine wrd 17 fun K hK=> ?_
      go_simp
      refine K3.out.mono ?_
      rintro e w2 ⟨rfl,hw⟩
      obtain rfl:=hw.symm
      refine hK.out _ _ trivial (fun hHeld=> ?_)
      clear hK K
      refine wrd 18 fun K hK=> ?_
      go_simp
      refine hK.out _ _ trivial (fun hHeld=> ?_)
      clear hK K
      refine wrd 19 fun K hK=> ?_
      go_simp
      refine hK.out _ _ trivial (fun hHeld=> ?_)
      clear hK K
      refine wrd 20 fun K hK=> ?_
      go_simp
      refine hK.out _ _ trivial (fun hHeld=> ?_)
      clear hK K
      refine wrd 21 fun K hK=> ?_
      go_simp
      refine hK.out _ _ trivial (fun hHeld=> ?_)
      clear hK K
      refine wrd 22 fun K hK=> ?_
      go_simp
      refine hK.out _ _ trivial (fun hHeld=> ?_)
      clear hK K
      refine wrd 23 fun K hK=> ?_
      go_simp
      refine hK.out _ _ trivial (fun hHeld=> ?_)
      clear hK K
      refine wpAnyH_done (by kernel_rfl) ?_ _
      go_wp2
      go_meet
      case rel=>exact⟨rfl,DF⟩
    ·skip
     go_simp
     refine hK.out _ _ trivial (fun hHeld=> ?_)
     clear hK K
     refine wrd 9 fun K hK=> ?_
     go_simp
     refine hK.out _ _ trivial (fun hHeld=> ?_)
     clear hK K
     refine wrd 10 fun K hK=> ?_
     go_simp
     refine K0.out.mono ?_
     rintro e w2 ⟨rfl,hw⟩
     obtain rfl:=hw.symm
     refine hK.out _ _ trivial (fun hHeld=> ?_)
     clear hK K
     refine wrd 17 fun K hK=> ?_
     go_simp
     refine K3.out.mono ?_
     rintro e w2 ⟨rfl,hw⟩
     obtain rfl:=hw.symm
     refine hK.out _ _ trivial (fun hHeld=> ?_)
     clear hK K
     refine wrd 18 fun K hK=> ?_
     go_simp
     refine hK.out _ _ trivial (fun hHeld=> ?_)
     clear hK K
     refine wrd 19 fun K hK=> ?_
     go_simp
     refine hK.out _ _ trivial (fun hHeld=> ?_)
     clear hK K
     refine wrd 20 fun K hK=> ?_
     go_simp
     refine hK.out _ _ trivial (fun hHeld=> ?_)
     clear hK K
     refine wrd 21 fun K hK=> ?_
     go_simp
     refine hK.out _ _ trivial (fun hHeld=> ?_)
     clear hK K
     refine wrd 22 fun K hK=> ?_
     go_simp
     refine hK.out _ _ trivial (fun hHeld=> ?_)
     clear hK K
     refine wrd 23 fun K hK=> ?_
     go_simp
     refine hK.out _ _ trivial (fun hHeld=> ?_)
     clear hK K
     refine wpAnyH_done (by kernel_rfl) ?_ _
     go_wp2
     go_meet
     case rel=>exact⟨rfl,DF⟩
   case rest=>
    obtain⟨rfl,D3⟩:=hcut
    clear c0a c3a f0a f3a k0 k3 D0 I3
    have hlen3:(A++(Value.slice va xt.length vc,(⟨nmF F x0,x1,x2,nmF F x3,x4,x5,xt⟩:Itm))::B).length=T.length:=by rw[HLEN.out];simp
    have c6:wc.cell? ⟨g,i*7+6,none⟩=some (.slice va xt.length vc):=(cells _ _ D3.out hlen3 A B _ rfl HAL.out 6 (by decide)).1
    have h39:=a3p (.slice va xt.length vc) xt wc (D3.out.nmr HN.out H1.out H2.out) H1.out H2.out (D3.out.e (.slice va xt.length vc,⟨nmF F x0,x1,x2,nmF F x3,x4,x5,xt⟩) (by simp)) HTS.out
    clear cells hof hlen3
    go_wp2_with (go_at_call 39;refine h39.mono ?_;rintro e W4 ⟨rfl,hI⟩;have D4:Aside (Iq w base tp (.slice (some ⟨g,0,none⟩) T.length c) (A++(.slice va xt.length vc,{(⟨nmF F x0,x1,x2,nmF F x3,x4,x5,xt⟩:Itm)with ts:=xt.map fun p=>(p.1,nmF F p.2)})::B) W4):=D3.out.inner (List.length_map ..) hI.out;clear hI)
    have D5:Aside (Iq w base tp (.slice (some ⟨g,0,none⟩) T.length c) ((T.take (i+1)).map (fun p=>(p.1,nmI (nmF F) p.2))++T.drop (i+1)) W4):=by rw[HBQ.out,←HNX.out];exact D4.out
    clear D4
    go_roundg (T.length-(i+1))
    case measure=>omega
    case rel=>exact⟨i+1,by first|rfl|go_num,by omega,Nat.le_refl _,D5⟩
  ·have hltz: ¬(i:Int)<(T.length:Int):=by omega
   obtain rfl:i=T.length:=by omega
   have I2:Aside (Iq w base tp (.slice a T.length c) (T.map fun p=>(p.1,nmI (nmF F) p.2)) wr):=by have:=I1.out;rw[List.take_length,List.drop_length,List.append_nil]at this;exact this
   clear I1
   go_wp2
   go_returns
   exact⟨rfl,I2⟩
end Go.Proofs.Ytcblehiddfnafaa.canonSame
