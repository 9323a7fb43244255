/-
  Chapter 28: lists of one's own, each within an interval of blocks.
-/
import Derived.Test.YtcblehiddfnafaaTxT
import Derived.Test.YtcblehiddfnafaaTxL
import Derived.Test.YtcblehiddfnafaaTxM
import Derived.Test.YtcblehiddfnafaaTxI
namespace Go.Proofs.Ytcblehiddfnafaa.canonSame
open Go.Shelf Go.RowKit Go.Lib Go.Sort
theorem b4J{W W':World}{base e k n:Nat}{v:Value}{X:List Value}(h:W.ownsRow base e k v n X)(hk: ∀b,v.ownBlock=some b→W'.heap[b]? =W.heap[b]?):W'.ownsRow base e k v n X:=by
 refine⟨h.1, ?_⟩
 rcases h.2 with h0|⟨g,cap,cur,rfl,h1,h2,h3⟩
 ·exact .inl h0
 ·exact .inr ⟨g,cap,cur,rfl,h1,(hk g rfl).trans h2,h3⟩
structure Rw(lo hi e k:Nat)(v:Value)(n:Nat)(X:List Value)(W:World):Prop where
 o:W.ownsRow lo e k v n X
 h: ∀b,v.ownBlock=some b→b<hi
theorem Rw.kp{lo hi e k n:Nat}{v:Value}{X:List Value}{W W':World}(h:Rw lo hi e k v n X W)(q:Kp lo hi W W'):Rw lo hi e k v n X W':=⟨b4J h.o fun b hb=>q b (h.o.lt b hb).1 (h.h b hb),h.h⟩
theorem Rw.of{lo e k n:Nat}{v:Value}{X:List Value}{W:World}(h:W.ownsRow lo e k v n X):Rw lo W.heap.size e k v n X W:=⟨h,fun b hb=>(h.lt b hb).2⟩
structure Pr{α β:Type}(lo hi e1 k e2 m:Nat)(lv:Value)(T:List (Value×α))(f:α→Value→List Value)(inn:α→List β)(g:β→List Value)(W:World):Prop where
 r:Rw lo hi e1 k lv T.length (T.flatMap fun p=>f p.2 p.1) W
 e: ∀p∈T,Rw lo hi e2 m p.1 (inn p.2).length ((inn p.2).flatMap g) W
structure Pt{α β:Type}(lo hi e1 k e2 m:Nat)(lv:Value)(T:List (Value×α))(f:α→Value→List Value)(inn:α→List β)(g:β→List Value)(W:World):Prop where
 q:Pr lo hi e1 k e2 m lv T f inn g W
 p:T.Pairwise fun p q=>p.1.ownBlock=none∨p.1.ownBlock≠q.1.ownBlock
section
variable{α β:Type}{lo hi e1 k e2 m:Nat}{lv:Value}{T:List (Value×α)}{f:α→Value→List Value}{inn:α→List β}{g:β→List Value}{W W':World}
theorem Pr.kp(h:Pr lo hi e1 k e2 m lv T f inn g W)(q:Kp lo hi W W'):Pr lo hi e1 k e2 m lv T f inn g W':=⟨h.r.kp q,fun p hp=>(h.e p hp).kp q⟩
theorem Pt.kp(h:Pt lo hi e1 k e2 m lv T f inn g W)(q:Kp lo hi W W'):Pt lo hi e1 k e2 m lv T f inn g W':=⟨h.q.kp q,h.p⟩
theorem Nd.pr{w:World}{bs:Nat}(h:Nd w bs e1 k e2 m lv T f inn g W):Pr bs W.heap.size e1 k e2 m lv T f inn g W:=⟨.of h.n.i.o,fun p hp=>.of (h.n.e p hp)⟩
theorem Nd.pt{w:World}{bs:Nat}(h:Nd w bs e1 k e2 m lv T f inn g W):Pt bs W.heap.size e1 k e2 m lv T f inn g W:=⟨h.pr,h.p⟩
theorem Rw.rows{lo hi e k n c:Nat}{a:Option Addr}{γ:Type}{f:γ→List Value}{l:List γ}{W:World}(h:Rw lo hi e k (.slice a n c) n (l.flatMap f) W)(hn:n=l.length)(hf: ∀x,(f x).length=k):RowsI lo hi W a k (l.map fun x=>(f x).toArray):=by
 rcases a0u h.o hn hf with h0|⟨B,O,e,h1,h2,h3⟩
 ·exact .inl h0
 ·exact .inr ⟨B,O,e,h1,h.h B (by rw[e];rfl),h3⟩
theorem Rw.sl{lo hi e k n:Nat}{v:Value}{X:List Value}(h:Rw lo hi e k v n X W): ∃a c,v= .slice a n c:=a0o h.o
theorem Pr.nst(h:Pr lo hi e1 k e2 m lv T f inn g W)(hf: ∀x v,(f x v).length=k)(hg: ∀y,(g y).length=m): ∃A:Loc,lv= .slice A.a (T.map (·.2)).length A.c∧Nst lo hi W A k m (T.map (·.2)) f inn g:=by
 obtain⟨a,c,hlv⟩:=h.r.sl
 have hin: ∀i:Nat,∃q:Option Addr×Nat,∀p,T[i]? =some p→p.1= .slice q.1 (inn p.2).length q.2:=fun i=>by
  cases hi:T[i]? with
  |none=>exact⟨(none,0),fun p hp=>by cases hp⟩
  |some p=>
   obtain⟨a,c,e⟩:=(h.e p (List.mem_of_getElem? hi)).sl
   exact⟨(a,c),fun p' hp'=>by injection hp' with hp';subst hp';exact e⟩
 obtain⟨q,hq⟩:=Classical.skolem.1 hin
 refine⟨⟨a,c,fun i=>(q i).1,fun i=>(q i).2⟩,by rw[hlv,List.length_map], ?_, ?_⟩
 ·subst hlv
  have:=h.r.rows (f:=fun p:Value×α=>f p.2 p.1) rfl fun p=>hf _ _
  have e:(T.map fun p=>(f p.2 p.1).toArray)=(List.range (T.map (·.2)).length).map fun i=>match(T.map (·.2))[i]? with|some x=>(f x (.slice (q i).1 (inn x).length (q i).2)).toArray|none=> #[]:=by
   apply List.ext_getElem?
   intro i
   rw[List.getElem?_map,List.getElem?_map,List.length_map]
   rcases Nat.lt_or_ge i T.length with hi|hi
   ·rw[List.getElem?_eq_getElem hi,List.getElem?_eq_getElem (by simpa using hi),List.getElem_range]
    simp only[Option.map_some,List.getElem?_map,List.getElem?_eq_getElem hi]
    rw[hq i T[i] (List.getElem?_eq_getElem hi)]
   ·rw[List.getElem?_eq_none hi,List.getElem?_eq_none (by simpa using hi)]
    rfl
  rw[e]at this
  exact this
 ·intro i x hx
  rw[List.getElem?_map,Option.map_eq_some_iff]at hx
  obtain⟨p,hp,rfl⟩:=hx
  have he:=h.e p (List.mem_of_getElem? hp)
  rw[hq i p hp]at he
  exact he.rows rfl hg
end
structure Ow where
 p:Value
 o:Value
 l:Value
 h:Value
 g:Value
 x:Value
 f:Value
 s:Value
 w:Value
 t:Value
 pl:List Pld
 To:List (Value×Obd)
 Tl:List (Value×List Int)
 Th:List (Value×List Int)
 Tg:List (Value×List Int)
 Tx:List (Value×List Int)
 fd:List Int
 Ts:List (Value×Itm)
 Tw:List (Value×Itm)
 ts:List (Int×Int)
def Ow.st(O:Ow)(S:Std):Std:={S with pl:=O.pl,obs:=O.To.map (·.2),libs:=O.Tl.map (·.2),hands:=O.Th.map (·.2),graves:=O.Tg.map (·.2),exiles:=O.Tx.map (·.2),field:=O.fd,stack:=O.Ts.map (·.2),waits:=O.Tw.map (·.2),cast:={S.cast with ts:=O.ts}}
def ovV(O:Ow)(S:Std):List Value:=[O.p,O.o,O.l,O.h,O.g,O.x,O.f,O.s,O.w,.int .i64 S.turn,.int .i64 S.active,.int .i64 S.phase,.int .i64 S.prio,.int .i64 S.passes,.int .i64 S.blocker,.int .i64 S.next,.int .i64 S.stamp,.int .i64 S.used,.int .i64 S.cast.kind,.int .i64 S.cast.obj,.int .i64 S.cast.abil,O.t,.bool S.cast.paying,.int .i64 S.outcome,.int .i64 S.winner]
abbrev LsP(lo hi:Nat)(lv:Value)(T:List (Value×List Int))(W:World):Prop:=Pt (α:=List Int) (β:=Int) lo hi 25 1 3 1 lv T (fun _ v=>[v]) id (fun n=>[.int .i64 n]) W
abbrev ItP(lo hi:Nat)(lv:Value)(T:List (Value×Itm))(W:World):Prop:=Pt (α:=Itm) (β:=Int×Int) lo hi 43 7 45 2 lv T a0f Itm.ts (fun p=>[.int .i64 p.1,.int .i64 p.2]) W
abbrev ObP(lo hi:Nat)(lv:Value)(T:List (Value×Obd))(W:World):Prop:=Pr (α:=Obd) (β:=Efd) lo hi 41 14 97 4 lv T obV Obd.effs efV W
structure OwI(N:Nat→Nat)(O:Ow)(W:World):Prop where
 p:Rw (N 0) (N 1) 66 8 O.p O.pl.length (O.pl.flatMap plV) W
 o:ObP (N 1) (N 2) O.o O.To W
 l:LsP (N 2) (N 3) O.l O.Tl W
 h:LsP (N 3) (N 4) O.h O.Th W
 g:LsP (N 4) (N 5) O.g O.Tg W
 x:LsP (N 5) (N 6) O.x O.Tx W
 f:Rw (N 6) (N 7) 3 1 O.f O.fd.length (O.fd.flatMap fun n=>[.int .i64 n]) W
 s:ItP (N 7) (N 8) O.s O.Ts W
 w:ItP (N 8) (N 9) O.w O.Tw W
 t:Rw (N 9) (N 10) 45 2 O.t O.ts.length (O.ts.flatMap fun p=>[.int .i64 p.1,.int .i64 p.2]) W
def Asc(N:Nat→Nat):Prop:= ∀i,i<10→N i≤N (i+1)
theorem Asc.le{N:Nat→Nat}(h:Asc N): ∀{i j:Nat},i≤j→j≤10→N i≤N j:=by
 intro i j hij hj
 induction j with
 |zero=>rw[Nat.le_zero.1 hij];exact Nat.le_refl _
 |succ j ih=>
  rcases Nat.lt_or_ge i (j+1)with hlt|hge
  ·exact Nat.le_trans (ih (by omega) (by omega)) (h j (by omega))
  ·rw[show i=j+1 by omega];exact Nat.le_refl _
theorem OwI.kp{N:Nat→Nat}{O:Ow}{W W':World}(h:OwI N O W)(hN:Asc N)(q:Kp (N 0) (N 10) W W'):OwI N O W':=by
 have k: ∀i,i<10→Kp (N i) (N (i+1)) W W':=fun i hi=>q.mono (hN.le (Nat.zero_le i) (by omega)) (hN.le (by omega) (Nat.le_refl _))
 exact⟨h.p.kp (k 0 (by decide)),h.o.kp (k 1 (by decide)),h.l.kp (k 2 (by decide)),h.h.kp (k 3 (by decide)),h.g.kp (k 4 (by decide)),h.x.kp (k 5 (by decide)),h.f.kp (k 6 (by decide)),h.s.kp (k 7 (by decide)),h.w.kp (k 8 (by decide)),h.t.kp (k 9 (by decide))⟩
theorem OwI.st{N:Nat→Nat}{O:Ow}{W:World}(h:OwI N O W)(hN:Asc N)(S:Std): ∃A,ovV O S=stV A (O.st S)∧StI (N 0) (N 10) W A (O.st S):=by
 obtain⟨ap,cp,ep⟩:=h.p.sl
 obtain⟨Ao,eo,no⟩:=h.o.nst (fun _ _=>rfl) (fun _=>rfl)
 obtain⟨Al,el,nl⟩:=h.l.q.nst (fun _ _=>rfl) (fun _=>rfl)
 obtain⟨Ah,eh,nh⟩:=h.h.q.nst (fun _ _=>rfl) (fun _=>rfl)
 obtain⟨Ag,eg,ng⟩:=h.g.q.nst (fun _ _=>rfl) (fun _=>rfl)
 obtain⟨Ax,ex,nx⟩:=h.x.q.nst (fun _ _=>rfl) (fun _=>rfl)
 obtain⟨af,cf,ef⟩:=h.f.sl
 obtain⟨As,es,ns⟩:=h.s.q.nst (fun _ _=>rfl) (fun _=>rfl)
 obtain⟨Aw,ew,nw⟩:=h.w.q.nst (fun _ _=>rfl) (fun _=>rfl)
 obtain⟨at',ct,et⟩:=h.t.sl
 have hp:=h.p
 have hf:=h.f
 have ht:=h.t
 rw[ep]at hp
 rw[ef]at hf
 rw[et]at ht
 have a: ∀i,i<10→N 0≤N i:=fun i hi=>hN.le (Nat.zero_le i) (by omega)
 have b: ∀i,i<10→N (i+1)≤N 10:=fun i hi=>hN.le (by omega) (Nat.le_refl _)
 refine⟨⟨⟨ap,cp,fun _=>none,fun _=>0⟩,Ao,Al,Ah,Ag,Ax,⟨af,cf,fun _=>none,fun _=>0⟩,As,Aw,⟨at',ct,fun _=>none,fun _=>0⟩⟩, ?_, ?_⟩
 ·unfold ovV stV
  rw[ep,eo,el,eh,eg,ex,ef,es,ew,et]
  rfl
 ·exact⟨(hp.rows rfl fun _=>rfl).mono (a 0 (by decide)) (b 0 (by decide)),no.mono (a 1 (by decide)) (b 1 (by decide)),nl.mono (a 2 (by decide)) (b 2 (by decide)),nh.mono (a 3 (by decide)) (b 3 (by decide)),ng.mono (a 4 (by decide)) (b 4 (by decide)),nx.mono (a 5 (by decide)) (b 5 (by decide)),(hf.rows rfl fun _=>rfl).mono (a 6 (by decide)) (b 6 (by decide)),ns.mono (a 7 (by decide)) (b 7 (by decide)),nw.mono (a 8 (by decide)) (b 8 (by decide)),(ht.rows rfl fun _=>rfl).mono (a 9 (by decide)) (b 9 (by decide))⟩
structure Cb(w:World)(b1 b2:Nat)(vs y:List Value)(n:Nat)(Q:World→Prop)(W:World):Prop where
 b:Below w.heap.size w W
 c1:W.heap[b1]? =some (.cells vs.toArray 31)
 c2:W.heap[b2]? =some (.cells y.toArray 31)
 h1:w.heap.size≤b1
 h2:b1<b2
 h3:b2<n
 hn:n≤W.heap.size
 q:Q W
 k: ∀W W',Q W→Kp (b2+1) n W W'→Q W'
section
variable{w:World}{b1 b2 n:Nat}{vs y:List Value}{Q:World→Prop}{W W':World}
theorem Cb.call(h:Cb w b1 b2 vs y n Q W)(hb:Below W.heap.size W W'):Cb w b1 b2 vs y n Q W':=
 ⟨h.b.trans (hb.mono h.b.size),(hb.block _ (a0L h.c1)).trans h.c1,(hb.block _ (a0L h.c2)).trans h.c2,h.h1,h.h2,h.h3,Nat.le_trans h.hn hb.size,h.k W W' h.q ((Kp.below hb _).mono (Nat.le_refl _) h.hn),h.k⟩
theorem Cb.more{P:World→Prop}(h:Cb w b1 b2 vs y n Q W)(hb:Below W.heap.size W W')(hP:P W')(hk: ∀U U',P U→Kp W.heap.size W'.heap.size U U'→P U'):Cb w b1 b2 vs y W'.heap.size (fun U=>Q U∧P U) W':=by
 have h':=h.call hb
 have:=h.hn
 have:=h.h3
 exact⟨h'.b,h'.c1,h'.c2,h.h1,h.h2,by have:=hb.size;omega,Nat.le_refl _,⟨h'.q,hP⟩,fun U U' hq kk=>⟨h.k U U' hq.1 (kk.mono (Nat.le_refl _) (Nat.le_trans h.hn hb.size)),hk U U' hq.2 (kk.mono (by omega) (Nat.le_refl _))⟩⟩
theorem Cb.set(h:Cb w b1 b2 vs y n Q W)(j:Nat)(v:Value):Cb w b1 b2 (vs.set j v) y n Q (W.setCell ⟨b1,j,none⟩ v):=
 ⟨h.b.setCell (p:=⟨b1,j,none⟩) h.h1 v,a1X h.c1 j v,(a0n (fun e=>by have:=h.h2;have e:b2=b1:=e;omega) j v).trans h.c2,h.h1,h.h2,h.h3,by rw[World.size_setCell];exact h.hn,h.k _ _ h.q (Kp.set (.inl (by have:=h.h2;omega)) W j v),h.k⟩
theorem Cb.gr(h:Cb w b1 b2 vs y n Q W)(g:Gr W W'):Cb w b1 b2 vs y n Q W':=h.call (a3k g)
end
end Go.Proofs.Ytcblehiddfnafaa.canonSame
namespace Go.Proofs.Ytcblehiddfnafaa.canonSame
open Go.Shelf Go.RowKit Go.Lib Go.Sort
section
variable{α:Type}[Inhabited α]{enc:α→List Value}{k:Nat}
theorem a7Y(hk: ∀x,(enc x).length=k)(hk0:0<k)(l:List α):(flatK enc k l.toArray).toList=l.flatMap enc:=by
 apply List.ext_getElem?
 intro t
 have hl:=a1W hk l
 rcases Nat.lt_or_ge t (l.length*k)with h|h
 ·have hd:t/k<l.length:=(Nat.div_lt_iff_lt_mul hk0).2 h
  have hm:=Nat.mod_lt t hk0
  have e:=a5B hk l (t/k) (t%k) hd hm
  have ej:t/k*k+t%k=t:=by rw[Nat.mul_comm];exact Nat.div_add_mod t k
  rw[ej]at e
  rw[e]
  have hs:t<(flatK enc k l.toArray).size:=by simpa using h
  have g:=get_flatK enc k l.toArray t (by simpa using h)
  rw[getElem!_pos _ t hs]at g
  rw[Array.getElem?_toList,Array.getElem?_eq_getElem hs,g]
  have e2:l.toArray[t/k]! =l[t/k]:=by simp[hd]
  rw[e2,getElem!_pos _ _ (by rw[hk];exact hm),List.getElem?_eq_getElem (by rw[hk];exact hm)]
 ·rw[List.getElem?_eq_none (by simpa using h),List.getElem?_eq_none (by rw[hl];exact h)]
theorem b2x(hk: ∀x,(enc x).length=k)(hk0:0<k){W:World}{base e g c:Nat}{l:List α}(h:W.ownsRow base e k (.slice (some ⟨g,0,none⟩) l.length c) l.length (l.flatMap enc)):HoldsK enc k W g 0 l.toArray:=fun j hj=>by
 have hj':j<l.length*k:=by simpa using hj
 rw[Nat.zero_add]
 refine⟨(h.cellAt j hj').trans ?_,h.frozenAt j⟩
 rw[←a7Y hk hk0 l,Array.getElem?_toList,Array.getElem?_eq_getElem hj,getElem!_pos _ j hj]
 rfl
theorem a6a{w W:World}{g:Nat}{d:Array α}(h:SWK enc k w g 0 d W):w.grownBy W (some g):=by
 obtain⟨n,os,rfl⟩:=h
 refine⟨rfl,rfl,rfl,by simp[sortWorldK,putRowK,putRow,mapBlock,Sort.ahead,grow],fun j hj hne=> ?_⟩
 unfold sortWorldK
 rw[heap_grow_old _ _ (by simpa[putRowK,putRow,mapBlock,Sort.ahead]using hj)]
 have:g≠j:=fun e=>hne (by rw[e])
 simp[putRowK,putRow,mapBlock,Sort.ahead,Array.getElem?_modify,this]
theorem b2d(hk: ∀x,(enc x).length=k)(hk0:0<k){w W:World}{base e g c:Nat}{l l':List α}(hl:l'.length=l.length)(h:w.ownsRow base e k (.slice (some ⟨g,0,none⟩) l.length c) l.length (l.flatMap enc))(hW:SWK enc k w g 0 l'.toArray W):W.ownsRow base e k (.slice (some ⟨g,0,none⟩) l.length c) l.length (l'.flatMap enc):=by
 obtain⟨n,os,rfl⟩:=hW
 rcases h.2 with⟨e0,_⟩|⟨g',cap',cur,e0,hb,hg,hn,hm,hs,ht⟩
 ·cases e0
 ·injection e0 with e1 _ e3
  injection e1 with e1
  injection e1 with e1
  subst e1;subst e3
  have hgl:g<w.heap.size:=(Array.getElem?_eq_some_iff.1 hg).1
  have hF:(flatK enc k l'.toArray).size=l.length*k:=by simp[hl]
  have hnk:l.length*k≤cur.size:=by rw[hs];exact Nat.mul_le_mul_right k hn
  refine⟨by rw[a1W hk,hl],.inr ⟨g,c,putCells id 0 (flatK enc k l'.toArray) cur,rfl,hb, ?_,hn,hm,by simpa[putCells]using hs, ?_⟩⟩
  ·unfold sortWorldK
   rw[heap_grow_old _ _ (by simpa[putRowK,putRow,mapBlock,Sort.ahead]using hgl)]
   simp[putRowK,putRow,mapBlock,Sort.ahead,Array.getElem?_modify,hg,onCells]
  ·rw[←a7Y hk hk0 l']
   apply List.ext_getElem?
   intro j
   by_cases hj:j<l.length*k
   ·have hjf:j<(flatK enc k l'.toArray).size:=by rw[hF];exact hj
    rw[List.getElem?_take_of_lt hj,Array.getElem?_toList,Array.getElem?_toList,Array.getElem?_eq_getElem hjf]
    simp only[putCells,Array.getElem?_mapIdx,Array.getElem?_eq_getElem (show j<cur.size by omega),Option.map_some]
    rw[if_pos (by omega),Nat.sub_zero,getElem!_pos _ j hjf]
    rfl
   ·rw[List.getElem?_take_eq_none (by omega),List.getElem?_eq_none (by rw[Array.length_toList,hF];omega)]
end
theorem b2v(l:List Obd)(id:Int): ∀p,a6u l id p≤p
 |0=>Nat.le_refl _
 |p+1=>by
  unfold a6u
  split
  ·exact Nat.le_trans (b2v l id p) (Nat.le_succ _)
  ·exact Nat.le_refl _
theorem b2w(l:List Obd)(id:Int): ∀p j,a6u l id p≤j→j<p→id<(l[j]!).id
 |0,j,_,h=>by omega
 |p+1,j,h1,h2=>by
  unfold a6u at h1
  split at h1
  ·rcases Nat.lt_or_ge j p with h|h
   ·exact b2w l id p j h1 h
   ·obtain rfl:j=p:=by omega
    assumption
  ·omega
theorem b2u(l:List Obd)(id:Int): ∀p,0<a6u l id p→(l[a6u l id p-1]!).id≤id
 |0,h=>by simp[a6u]at h
 |p+1,h=>by
  unfold a6u at h ⊢
  split
  ·rename_i hlt
   rw[if_pos hlt]at h
   exact b2u l id p h
  ·rename_i hlt
   simpa using Int.not_lt.1 hlt
def b3n(l:List Obr)(x:Obr):List Obr:=l.take (a6u (l.map fun y=>y.1.2) x.1.2.id l.length)++ [x]++l.drop (a6u (l.map fun y=>y.1.2) x.1.2.id l.length)
theorem b4d(l:List Obr)(x:Obr):(b3n l x).map (fun y=>y.1.2)=a9J (l.map fun y=>y.1.2) x.1.2:=by
 unfold b3n a9J
 rw[List.map_append,List.map_append,List.map_take,List.map_drop,List.length_map]
 rfl
theorem b7G{x y:Obr}:ltOf a6v x y=true↔x.1.2.id<y.1.2.id:=by
 unfold ltOf a6v
 rw[decide_eq_true_iff]
 omega
theorem b2n{x y:Obr}:ltOf a6v x y=false↔y.1.2.id≤x.1.2.id:=by
 rw[←Bool.not_eq_true,b7G]
 omega
theorem b5x(l:List Obr)(x:Obr)(h:Srt (ltOf a6v) l):Srt (ltOf a6v) (b3n l x)∧Stb (ltOf a6v) (l++ [x]) (b3n l x):=by
 have hq:=b2v (l.map fun y=>y.1.2) x.1.2.id l.length
 have hhi:=b2w (l.map fun y=>y.1.2) x.1.2.id l.length
 have hlo:=b2u (l.map fun y=>y.1.2) x.1.2.id l.length
 unfold b3n
 generalize a6u (l.map fun y=>y.1.2) x.1.2.id l.length=q at hq hhi hlo
 have hd: ∀y∈l.drop q,x.1.2.id<y.1.2.id:=fun y hy=>by
  obtain⟨j,hj,rfl⟩:=List.getElem_of_mem hy
  rw[List.length_drop]at hj
  rw[List.getElem_drop]
  have:=hhi (q+j) (by omega) (by omega)
  rwa [getElem!_pos _ _ (by rw[List.length_map];omega),List.getElem_map]at this
 have ht: ∀y∈l.take q,y.1.2.id≤x.1.2.id:=fun y hy=>by
  obtain⟨j,hj,rfl⟩:=List.getElem_of_mem hy
  rw[List.length_take]at hj
  rw[List.getElem_take]
  have:=hlo (by omega)
  rw[getElem!_pos _ _ (by rw[List.length_map];omega),List.getElem_map]at this
  rcases Nat.lt_or_ge j (q-1)with hlt|hge
  ·have h2:=List.pairwise_iff_getElem.1 h j (q-1) (by omega) (by omega) hlt
   rw[b2n]at h2
   omega
  ·have e:q-1=j:=by omega
   simp only[e]at this
   exact this
 have hs:l.take q++l.drop q=l:=List.take_append_drop q l
 have h':=h
 unfold Srt at h'
 rw[←hs,List.pairwise_append]at h'
 refine⟨?_, ?_⟩
 ·unfold Srt
  rw[List.append_assoc,List.pairwise_append]
  refine⟨h'.1, ?_,fun y hy z hz=> ?_⟩
  ·rw[List.singleton_append,List.pairwise_cons]
   exact⟨fun y hy=>by rw[b2n];exact Int.le_of_lt (hd y hy),h'.2.1⟩
  ·rcases List.mem_append.1 hz with hz|hz
   ·rw[List.mem_singleton.1 hz,b2n]
    exact ht y hy
   ·exact h'.2.2 y hy z hz
 ·have e:l++ [x]=l.take q++(l.drop q++ [x]):=by rw[←List.append_assoc,hs]
  rw[e,List.append_assoc]
  refine Stb.app (Stb.refl _) (Stb.swap b1G.ntrans fun y hy z hz=> ?_)
  rw[List.mem_singleton.1 hz,b7G]
  exact hd y hy
theorem a9H: ∀(m l:List Obr),Srt (ltOf a6v) l→Srt (ltOf a6v) (m.foldl b3n l)∧Stb (ltOf a6v) (l++m) (m.foldl b3n l)
 | [],l,h=>⟨h,by rw[List.append_nil];exact Stb.refl _⟩
 |x::m,l,h=>by
  have h1:=b5x l x h
  have h2:=a9H m (b3n l x) h1.1
  rw[List.foldl_cons]
  refine⟨h2.1,Stb.trans ?_ h2.2⟩
  have e:l++x::m=(l++ [x])++m:=by simp
  rw[e]
  exact Stb.app h1.2 (Stb.refl _)
theorem a7U: ∀(m l:List Obr),(m.foldl b3n l).map (fun y=>y.1.2)=(m.map fun y=>y.1.2).foldl a9J (l.map fun y=>y.1.2)
 | [],l=>rfl
 |x::m,l=>by
  rw[List.foldl_cons,a7U m,List.map_cons,List.foldl_cons,b4d]
theorem b3x{d d':Array Obr}(h:StbIn (ltOf a6v) 0 d.size d d')(s:SortedIn (ltOf a6v) 0 d.size d'):d'.toList=d.toList.foldl b3n []:=by
 have h1:=h.st
 have s1:=b5d s
 have e:seg d' 0 d.size=d'.toList:=by rw[←h.sz];exact a7g d'
 rw[a7g,e]at h1
 rw[e]at s1
 have:=a9H d.toList [] Srt.nil
 rw[List.nil_append]at this
 exact b0s (fun x=>by rw[b2n];omega) s1 this.1 (h1.symm.trans this.2)
structure Chg(lo hi:Nat)(W W':World):Prop where
 os:W'.os=W.os
 tape:W'.tape=W.tape
 output:W'.output=W.output
 size:W.heap.size≤W'.heap.size
 fr: ∀k,k<W.heap.size→(k<lo∨hi≤k)→W'.heap[k]? =W.heap[k]?
theorem Chg.grown{lo hi:Nat}{W W':World}{r:Option Nat}(g:W.grownBy W' r)(hr: ∀k,r=some k→lo≤k∧k<hi):Chg lo hi W W':=
 ⟨g.os,g.tape,g.output,g.size,fun k hk ho=>g.block k hk (fun e=>by have:=hr k e.symm;omega)⟩
theorem Chg.refl(lo hi:Nat)(W:World):Chg lo hi W W:=⟨rfl,rfl,rfl,Nat.le_refl _,fun _ _ _=>rfl⟩
theorem Chg.trans{lo hi:Nat}{W W' W'':World}(h:Chg lo hi W W')(k:Chg lo hi W' W''):Chg lo hi W W'':=⟨k.os.trans h.os,k.tape.trans h.tape,k.output.trans h.output,Nat.le_trans h.size k.size,fun j hj ho=>(k.fr j (Nat.lt_of_lt_of_le hj h.size) ho).trans (h.fr j hj ho)⟩
theorem Chg.below{lo hi B:Nat}{w W W':World}(c:Chg lo hi W W')(h:Below B w W)(hB:B≤lo)(hs:B≤W.heap.size):Below B w W':=⟨c.os.trans h.os,c.tape.trans h.tape,c.output.trans h.output,Nat.le_trans h.size c.size,fun k hk=>(c.fr k (by omega) (.inl (by omega))).trans (h.block k hk)⟩
def mkR(p:Value×Obd)(h:(-5000≤p.2.id∧p.2.id≤5000)∧p.1.oneCell'=true):Obr:=⟨p,h⟩
def Obr.v(x:Obr):Value×Obd:=x.1
def toR(p:Value×Obd):Obr:=if h:(-5000≤p.2.id∧p.2.id≤5000)∧p.1.oneCell'=true then mkR p h else default
theorem b2N{p:Value×Obd}(h:(-5000≤p.2.id∧p.2.id≤5000)∧p.1.oneCell'=true):(toR p).1=p:=by
 unfold toR
 rw[dif_pos h]
 rfl
theorem b5W{T:List (Value×Obd)}(h: ∀p∈T,(-5000≤p.2.id∧p.2.id≤5000)∧p.1.oneCell'=true):(T.map toR).map (·.1)=T:=by
 rw[List.map_map]
 conv=>rhs;rw[←List.map_id T]
 exact List.map_congr_left fun p hp=>b2N (h p hp)
theorem b3S(R:List Obr):R.flatMap encR=(R.map (·.1)).flatMap fun p=>obV p.2 p.1:=by
 rw[List.flatMap_map]
 rfl
theorem b2R{lo hi c:Nat}{a:Option Addr}{T:List (Value×Obd)}{W:World}(h:ObP lo hi (.slice a T.length c) T W)(hid: ∀p∈T,-5000≤p.2.id∧p.2.id≤5000)(hn:T.length≤900)(rv:Value):
  Calls Try.prog 35 #[.slice a T.length c,.func (.func 36) #[rv] #[]] W fun e W'=>e= .returned (.tuple #[])∧Aside (∃T',T'.length=T.length∧T'.map (·.2)=(T.map (·.2)).foldl a9J []∧ObP lo hi (.slice a T.length c) T' W'∧Chg lo hi W W'):=by
 rcases Nat.eq_zero_or_pos T.length with h0|h0
 ·have hT:T= []:=List.eq_nil_of_length_eq_zero h0
  subst hT
  refine(b1a rv a c W).mono ?_
  rintro e w' ⟨rfl,rfl⟩
  exact⟨rfl,[],rfl,rfl,h,Chg.refl _ _ _⟩
 ·obtain⟨g,rfl⟩:=a1m h.r.o h0
  have hone: ∀p∈T,(-5000≤p.2.id∧p.2.id≤5000)∧p.1.oneCell'=true:=fun p hp=>⟨hid p hp,by obtain⟨a,c,e⟩:=(h.e p hp).sl;rw[e];rfl⟩
  have hm:=b5W hone
  have hl:(T.map toR).length=T.length:=List.length_map _
  have ho:W.ownsRow lo 41 14 (.slice (some ⟨g,0,none⟩) (T.map toR).length c) (T.map toR).length ((T.map toR).flatMap encR):=by
   rw[b3S,hm,hl]
   exact h.r.o
  have hb:=h.r.o.lt g rfl
  have hH:=b2x a8V (by decide) ho
  have hs:=a9y rv g 0 c (T.map toR).toArray W hH hb.2 (by rw[List.size_toArray,hl];omega)
  rw[List.size_toArray,hl]at hs
  refine hs.mono ?_
  rintro e W' ⟨rfl,d',h1,h2,h3⟩
  refine⟨rfl,d'.toList.map (·.1), ?_, ?_, ?_, ?_⟩
  ·rw[List.length_map,Array.length_toList,h1.sz,List.size_toArray,hl]
  ·have hsz:(T.map toR).toArray.size=T.length:=by rw[List.size_toArray,hl]
   rw[←hsz]at h1 h2
   rw[b3x h1 h2]
   have:=a7U (T.map toR) []
   rw[List.map_map]
   show List.map (fun y:Obr=>y.1.2) _=_
   rw[this]
   congr 1
   have h5:=congrArg (List.map fun p:Value×Obd=>p.2) hm
   rw[List.map_map]at h5
   exact h5
  ·have hlen:d'.toList.length=(T.map toR).length:=by rw[Array.length_toList,h1.sz,List.size_toArray]
   have o2:=b2d a8V (by decide) (l':=d'.toList) hlen ho h3
   rw[hl,b3S]at o2
   refine⟨⟨?_,h.r.h⟩,fun p hp=> ?_⟩
   ·rw[List.length_map,hlen,hl]
    exact o2
   ·obtain⟨x,hx,rfl⟩:=List.mem_map.1 hp
    have hst:=h1.st
    have hsz:(T.map toR).toArray.size=T.length:=by rw[List.size_toArray,hl]
    rw[←hsz]at hst
    have e2:seg d' 0 (T.map toR).toArray.size=d'.toList:=by rw[←h1.sz];exact a7g d'
    rw[a7g,e2]at hst
    have hx2:=hst.mem (fun x=>by rw[b2n];omega) hx
    obtain⟨p,hp2,rfl⟩:=List.mem_map.1 hx2
    rw[b2N (hone p hp2)]
    have he:=h.e p hp2
    exact⟨he.o.kept (a6a h3) (a0p (by decide) he.o h.r.o),he.h⟩
  ·exact Chg.grown (a6a h3) fun k hk=>by
    injection hk with hk
    subst hk
    exact⟨hb.1,h.r.h _ rfl⟩
end Go.Proofs.Ytcblehiddfnafaa.canonSame
