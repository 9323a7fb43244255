/-
  Chapter 28: the answer's Normal, walked.
-/
import Derived.Test.YtcblehiddfnafaaTxH
import Derived.Deep.CutBlock
import Derived.Deep.CutRange
namespace Go.Proofs.Ytcblehiddfnafaa.canonSame
open Go.Shelf Go.RowKit Go.Lib Go.Sort
def rnO(nm:Int→Int)(o:Obd):Obd:={o with id:=nm o.id,block:=nm o.block}
def a6u(l:List Obd)(id:Int):Nat→Nat
 |0=>0
 |p+1=>if id<(l[p]!).id then a6u l id p else p+1
def a9J(l:List Obd)(o:Obd):List Obd:=l.take (a6u l o.id l.length)++ [o]++l.drop (a6u l o.id l.length)
def a2S(nm:Int→Int)(l:List Obd):List Obd:=(l.map (rnO nm)).foldl a9J []
theorem b2i(nm:Int→Int)(l:List Obd)(o:Obd):a2S nm (l++ [o])=a9J (a2S nm l) (rnO nm o):=by
 unfold a2S
 rw[List.map_append,List.foldl_append]
 rfl
theorem b4f(l:List Obd)(o:Obd):(a9J l o).length=l.length+1:=by
 unfold a9J
 simp only[List.length_append,List.length_take,List.length_drop,List.length_singleton]
 omega
theorem a7r(nm:Int→Int): ∀(l:List Obd),(a2S nm l).length=l.length:=by
 have g: ∀(l:List Obd) (m:List Obd),(l.foldl a9J m).length=m.length+l.length:=by
  intro l
  induction l with
  |nil=>intro m;simp
  |cons x l ih=>intro m;rw[List.foldl_cons,ih,b4f,List.length_cons];omega
 intro l
 unfold a2S
 rw[g,List.length_map]
 simp
def a6t(nm:Int→Int)(S:Std):Std:={S with obs:=a2S nm S.obs,libs:=S.libs.map (·.map nm),hands:=S.hands.map (·.map nm),graves:=S.graves.map (·.map nm),exiles:=S.exiles.map (·.map nm),field:=S.field.map nm,stack:=S.stack.map (nmI nm),waits:=S.waits.map (nmI nm),cast:={S.cast with obj:=nm S.cast.obj,ts:=S.cast.ts.map fun p=>(p.1,nm p.2)},next:=0}
abbrev obF:Value×Obd→List Value:=fun p=>obV p.2 p.1
structure Fw(w:World)(b1 b2 bs:Nat)(SL y:List Value)(S:Std)(n2:Nat)(W2:World)(ov:Value)(T:List (Value×Obd))(W:World):Prop where
 x:Bx w b1 b2 bs SL y a1b (bare S) W
 q:Kp bs n2 W2 W
 o:W.ownsRow n2 41 14 ov T.length (T.flatMap obF)
 hn:n2≤W.heap.size
 e: ∀p∈T,p.1.oneCell'=true∧ ∃a c,p.1= .slice a p.2.effs.length c∧RowsI bs n2 W2 a 4 (p.2.effs.map fun e=>(efV e).toArray)
theorem Fw.call{w:World}{b1 b2 bs:Nat}{SL y:List Value}{S:Std}{n2:Nat}{W2:World}{ov:Value}{T:List (Value×Obd)}{W W':World}(h:Fw w b1 b2 bs SL y S n2 W2 ov T W)(hb:Below W.heap.size W W'):Fw w b1 b2 bs SL y S n2 W2 ov T W':=
 ⟨h.x.call hb,h.q.trans ((Kp.below hb bs).mono (Nat.le_refl _) h.hn),a1K h.o hb,Nat.le_trans h.hn hb.size,h.e⟩
theorem Fw.next{w:World}{b1 b2 bs:Nat}{SL y:List Value}{S:Std}{n2:Nat}{W2:World}{ov ov':Value}{T T':List (Value×Obd)}{W W':World}(h:Fw w b1 b2 bs SL y S n2 W2 ov T W)(hb:Below W.heap.size W W')(o:W'.ownsRow n2 41 14 ov' T'.length (T'.flatMap obF))(e: ∀p∈T',p.1.oneCell'=true∧ ∃a c,p.1= .slice a p.2.effs.length c∧RowsI bs n2 W2 a 4 (p.2.effs.map fun e=>(efV e).toArray)):Fw w b1 b2 bs SL y S n2 W2 ov' T' W':=
 ⟨h.x.call hb,h.q.trans ((Kp.below hb bs).mono (Nat.le_refl _) h.hn),o,Nat.le_trans h.hn hb.size,e⟩
theorem a3k{W W':World}(g:Gr W W'):Below W.heap.size W W':=a0N (.refl _ _) (Nat.le_refl _) g
theorem Fw.nst{w:World}{b1 b2 bs:Nat}{SL y:List Value}{S:Std}{n2:Nat}{W2:World}{ov:Value}{T:List (Value×Obd)}{W:World}(h:Fw w b1 b2 bs SL y S n2 W2 ov T W)(hbs:bs≤n2): ∃A:Loc,ov= .slice A.a (T.map (·.2)).length A.c∧b1P bs W.heap.size W A (T.map (·.2)):=by
 obtain⟨a,c,hlv⟩:=a0o h.o
 have hin: ∀i:Nat,∃q:Option Addr×Nat,∀p,T[i]? =some p→p.1= .slice q.1 p.2.effs.length q.2∧RowsI bs n2 W2 q.1 4 (p.2.effs.map fun e=>(efV e).toArray):=fun i=>by
  cases hi:T[i]? with
  |none=>exact⟨(none,0),fun p hp=>by cases hp⟩
  |some p=>
   obtain⟨_,a,c,e,r⟩:=h.e p (List.mem_of_getElem? hi)
   exact⟨(a,c),fun p' hp'=>by injection hp' with hp';subst hp';exact⟨e,r⟩⟩
 obtain⟨q,hq⟩:=Classical.skolem.1 hin
 refine⟨⟨a,c,fun i=>(q i).1,fun i=>(q i).2⟩,by rw[hlv,List.length_map], ?_, ?_⟩
 ·subst hlv
  refine Eq.mp (congrArg (RowsI bs W.heap.size W a 14) ?_) ((a0u (f:=obF) h.o rfl fun p=>rfl).mono hbs (Nat.le_refl _))
  apply List.ext_getElem?
  intro i
  rw[List.getElem?_map,List.getElem?_map,List.length_map]
  rcases Nat.lt_or_ge i T.length with hi|hi
  ·rw[List.getElem?_eq_getElem hi,List.getElem?_eq_getElem (by simpa using hi),List.getElem_range]
   simp only[Option.map_some,List.getElem?_map,List.getElem?_eq_getElem hi]
   show some (obV T[i].2 T[i].1).toArray=_
   rw[(hq i T[i] (List.getElem?_eq_getElem hi)).1]
  ·rw[List.getElem?_eq_none hi,List.getElem?_eq_none (by simpa using hi)]
   rfl
 ·intro i x hx
  rw[List.getElem?_map,Option.map_eq_some_iff]at hx
  obtain⟨p,hp,rfl⟩:=hx
  exact((hq i p hp).2.kp h.q).mono (Nat.le_refl _) h.hn
theorem b4a(T:List (Value×Obd))(v:Value)(o:Obd)(p:Nat)(hp:p=a6u (T.map (·.2)) o.id (T.map (·.2)).length):(T.take p++ [(v,o)]++T.drop p).map (·.2)=a9J (T.map (·.2)) o:=by
 unfold a9J
 rw[←hp,List.map_append,List.map_append,List.map_take,List.map_drop]
 rfl
set_option maxHeartbeats 16000000 in
set_option maxRecDepth 100000 in
theorem a8x{P:Program}{k29 k31 k41 k43 k45 k66 k97:Nat}{y29 y31 y41 y43 y45 y66 y97:List Value}(L:LayS P k29 k31 k41 k43 k45 k66 k97 y29 y31 y41 y43 y45 y66 y97)(hk0: ¬k29=0)(hk1:k31=25)(hy1:y31.length=k31)(hk:k41=14)(hy3:y41.length=k41)(f11:P.funcs[11]? =some Try.f11)
  (e7: ∀args w,(callFunc 7 args).run P w= .ok (.enter 7 args) w) (e40: ∀args w,(callFunc 40 args).run P w= .ok (.enter 40 args) w) (e41: ∀args w,(callFunc 41 args).run P w= .ok (.enter 41 args) w) (e42: ∀args w,(callFunc 42 args).run P w= .ok (.enter 42 args) w) (e43: ∀args w,(callFunc 43 args).run P w= .ok (.enter 43 args) w) (e44: ∀args w,(callFunc 44 args).run P w= .ok (.enter 44 args) w) (e45: ∀args w,(callFunc 45 args).run P w= .ok (.enter 45 args) w)
  (i41:Inf P 41 14 1000)
  (h41: ∀(oa:Option Addr) (l:List Int) (oc:Nat) (n:Int) (W:World) (lo hh:Nat) (_:l.length≤900) (_:hh≤W.heap.size) (_:a2o lo hh W oa l),Calls P 41 #[.slice oa l.length oc,.int .i64 n] W fun e w'=>e= .returned (.int .i64 (nam l n))∧w'=W)
  (h42: ∀(oa:Option Addr) (o:List Int) (oc:Nat) (A:Loc) (ls:List (List Int)) (w:World) (lo hh lo' hh':Nat) (_:o.length≤900) (_:ls.length≤900) (_: ∀l∈ls,l.length≤900) (_:hh≤w.heap.size) (_:hh'≤w.heap.size) (_:a2o lo hh w oa o) (_:LstI lo' hh' w A ls),Calls P 42 #[.slice oa o.length oc,.slice A.a ls.length A.c] w fun e w'=> ∃A':Loc,e= .returned (.slice A'.a ls.length A'.c)∧LstI w.heap.size w'.heap.size w' A' (ls.map (·.map (nam o)))∧Below w.heap.size w w')
  (h43: ∀(oa:Option Addr) (o:List Int) (oc:Nat) (ia:Option Addr) (l:List Int) (ic:Nat) (w:World) (lo hh lo' hh':Nat) (_:o.length≤900) (_:l.length≤900) (_:hh≤w.heap.size) (_:hh'≤w.heap.size) (_:a2o lo hh w oa o) (_:a2o lo' hh' w ia l),Calls P 43 #[.slice oa o.length oc,.slice ia l.length ic] w fun e w'=> ∃lv,e= .returned lv∧w'.ownsRow w.heap.size 3 1 lv l.length (a0J (l.map (nam o)))∧Below w.heap.size w w')
  (h44: ∀(oa:Option Addr) (o:List Int) (oc:Nat) (A:Loc) (xs:List Itm) (w:World) (lo hh lo' hh':Nat) (_:o.length≤900) (_:xs.length≤900) (_: ∀x∈xs,x.ts.length≤900) (_:hh≤w.heap.size) (_:hh'≤w.heap.size) (_:a2o lo hh w oa o) (_:ItsI lo' hh' w A xs),Calls P 44 #[.slice oa o.length oc,.slice A.a xs.length A.c] w fun e w'=> ∃A':Loc,e= .returned (.slice A'.a xs.length A'.c)∧ItsI w.heap.size w'.heap.size w' A' (xs.map (nmI (nam o)))∧Below w.heap.size w w')
  (h45: ∀(oa:Option Addr) (o:List Int) (oc:Nat) (ia:Option Addr) (l:List (Int×Int)) (ic:Nat) (w:World) (lo hh lo' hh':Nat) (_:o.length≤900) (_:l.length≤900) (_:hh≤w.heap.size) (_:hh'≤w.heap.size) (_:a2o lo hh w oa o) (_:a9n lo' hh' w ia l),Calls P 45 #[.slice oa o.length oc,.slice ia l.length ic] w fun e w'=> ∃lv,e= .returned lv∧w'.ownsRow w.heap.size 45 2 lv l.length (a3F (l.map fun p=>(p.1,nam o p.2)))∧Below w.heap.size w w')
  (A:Lcs) (S:Std) (w:World) (hB:Bd S) (hol:(ord S).length≤900) {lo hh:Nat} (_hhh:hh≤w.heap.size) (_hI:StI lo hh w A S)
  (h7: ∀W (_:Below w.heap.size w W),Calls P 7 #[.agg (stV A S).toArray] W fun e w'=> ∃lv,e= .returned lv∧w'.ownsRow W.heap.size 3 1 lv (ord S).length (a0J (ord S))∧Below W.heap.size W w')
  (h40: ∀W (_:Below w.heap.size w W),Calls P 40 #[.agg (stV A S).toArray] W fun e w'=> ∃A',e= .returned (.agg (stV A' S).toArray)∧StI W.heap.size w'.heap.size w' A' S∧Below W.heap.size W w'):
  Calls P 11 #[.agg (stV A S).toArray] w fun e w'=> ∃A',e= .returned (.agg (stV A' (a6t (nam (ord S)) S)).toArray)∧StI w.heap.size w'.heap.size w' A' (a6t (nam (ord S)) S)∧Below w.heap.size w w':=by
 have mixed:=L.mixed;have t3:=L.t3;have a3:=L.a3;have z3:=L.z3;have v3:=L.v3;have qu3:=run_underlying L.t3;have t4:=L.t4;have a4:=L.a4;have z4:=L.z4
 have t22:=L.t22;have a22:=L.a22;have z22:=L.z22;have v22:=L.v22;have qu22:=run_underlying L.t22
 have t23:=L.t23;have a23:=L.a23;have z23:=L.z23;have v23:=L.v23;have qu23:=run_underlying L.t23
 have t24:=L.t24;have a24:=L.a24;have z24:=L.z24;have v24:=L.v24;have qu24:=run_underlying L.t24
 have t25:=L.t25;have a25:=L.a25;have z25:=L.z25;have v25:=L.v25;have qu25:=run_underlying L.t25
 have t26:=L.t26;have a26:=L.a26;have z26:=L.z26;have v26:=L.v26;have qu26:=run_underlying L.t26
 have t27:=L.t27;have a27:=L.a27;have z27:=L.z27;have v27:=L.v27;have qu27:=run_underlying L.t27
 have t39:=L.t39;have a39:=L.a39;have z39:=L.z39;have v39:=L.v39;have qu39:=run_underlying L.t39
 have qu29:=run_underlying L.t29;have a29:=L.a29;have z29:=L.z29;have v29:=L.v29
 have qu31:=run_underlying L.t31;have a31:=L.a31;have z31:=L.z31;have v31:=L.v31
 have qu41:=run_underlying L.t41;have a41:=L.a41;have z41:=L.z41;have v41:=L.v41
 have HB:Aside (Bd S):=hB
 have H7:Aside _:=h7
 have H40:Aside _:=h40
 have H41:Aside _:=h41
 have H42:Aside _:=h42
 have H43:Aside _:=h43
 have H44:Aside _:=h44
 have H45:Aside _:=h45
 have HOL:Aside _:=hol
 have HK:Hid (k41=14):=hk
 have hy7:14=y41.length:=by rw[hy3,hk]
 have HY:Hid (14=y41.length):=hy7
 have hy8:25=y31.length:=by rw[hy1,hk1]
 have HY1:Hid (25=y31.length):=hy8
 have HK1:Hid (k31=25):=hk1
 have SLl:(stV A S).length=k31:=hk1.symm
 have X0:Aside _:=(show Bx w w.heap.size (w.heap.size+1) (w.heap.size+2) (stV A S) y31 a1b (bare S) ((w.alloc (.cells (stV A S).toArray 31)).alloc (.cells y31.toArray 31))from by
  obtain⟨g,b4,b5⟩:=a0W w (stV A S) y31 31 31
  exact⟨a0N (.refl _ _) (Nat.le_refl _) g,b4,b5,b0n S _ _ _,by omega,by omega,by omega,by omega,by omega,by simp⟩)
 clear hB h41 h42 h43 h44 h45 h7 h40 hk hy7 hy8 hk1 hy1 _hI hol
 go_enter f11,Try.ntmps11
 go_upto_region 1 with fail
 generalize hbs:w.heap.size+2=bs at X0
 generalize hb1:w.heap.size=b1 at X0 ⊢
 generalize hb2:b1+1=b2 at X0 ⊢
 generalize hSL:(w.alloc (.cells (stV A S).toArray 31)).alloc (.cells y31.toArray 31)=W0 at X0 ⊢
 clear hbs hb2 hSL
 have HBB:Hid (w.heap.size=b1):=hb1
 clear hb1
 have lA:=a0I P (a0A X0.out.c1) SLl
 have h7:=H7.out W0 X0.out.b
 go_upto_region 2 with(go_at_fn 7;refine h7.mono ?_;rintro e V1 ⟨ov,rfl,ho,hb⟩;obtain⟨oa,oc,rfl⟩:=a0o ho;have X1:Aside _:=X0.out.call hb;rw[←a1D]at ho;have hro:=RowsI.mono (a0u ho rfl fun _=>rfl) X0.out.hs (Nat.le_refl _);have RO:Aside (a2o bs V1.heap.size V1 oa (ord S)):=hro;clear ho hb hro)
 clear lA h7 X0
 have lA:=a0I P (a0A X1.out.c1) SLl
 have h40:=H40.out V1 X1.out.b
 go_upto_region 3 with(go_at_fn 40;refine h40.mono ?_;rintro e V2 ⟨A2,rfl,hI2,hb⟩;have X2:Aside _:=X1.out.call hb;have A2l:(stV A2 S).length=k31:=HK1.out.symm;have sB:=a0P P (a0A X2.out.c1) (stV A2 S) rfl (a4D _ _);have I2:Aside _:=hI2.mono X1.out.hs (Nat.le_refl _);have RO2:Aside (a2o bs V2.heap.size V2 oa (ord S)):=(RowsI.kp RO.out ((Kp.below hb bs))).mono (Nat.le_refl _) hb.size;clear hI2 hb)
 have b2F:=a0Y X2.out.c1 (stV A2 S) rfl
 have X3:Aside (Bx w b1 b2 bs (stV A2 S) y31 a1b (bare S) (V2.setCells b1 0 (stV A2 S))):=⟨a0l X2.out.h1 _ _ X2.out.b,b2F,(a0R X2.out.h5.symm _ _).trans X2.out.c2,b0n S _ _ _,X2.out.h1,X2.out.h2,X2.out.h3,X2.out.h4,X2.out.h5,by rw[a1A];exact X2.out.hs⟩
 have qk:=Kp.sets (lo:=bs) (hi:=V2.heap.size) (.inl X2.out.h2) V2 0 (stV A2 S)
 have sz:V2.heap.size=(V2.setCells b1 0 (stV A2 S)).heap.size:=(a1A _ _ _ _).symm
 have I3:Aside (StI bs V2.heap.size (V2.setCells b1 0 (stV A2 S)) A2 S):=I2.out.kp qk
 have RO3:Aside (a2o bs V2.heap.size (V2.setCells b1 0 (stV A2 S)) oa (ord S)):=RowsI.kp RO2.out qk
 clear lA h40 X1 X2 sB b2F qk I2 RO2 RO
 generalize V2.setCells b1 0 (stV A2 S)=W2 at X3 I3 RO3 sz ⊢
 generalize V2.heap.size=n2 at I3 RO3 sz
 have HSZ:Hid (n2=W2.heap.size):=sz
 clear sz A2l SLl
 have F0:Aside (Fw w b1 b2 bs (stV A2 S) y31 S n2 W2 (.slice none 0 0) [] W2):=⟨X3.out,Kp.refl _ _ _,World.ownsRow_nil _ _ _ _,Nat.le_of_eq HSZ.out,fun p hp=>by cases hp⟩
 have hbn:bs≤n2:=by rw[HSZ.out];exact X3.out.hs
 have HBN:Aside _:=hbn
 have obsl:=HB.out.obs
 clear hbn X3
 generalize hol:(ord S).length=ol
 have HOE:Hid ((ord S).length=ol):=hol
 clear hol
 go_wp2
 go_loopg [4,5] S.obs.length (fun kx s4 s5 wr=> ∃(i:Nat) (v:Value) (T:List (Value×Obd)),v=s4∧s5= .int .i64 i∧i≤S.obs.length∧S.obs.length-i≤kx∧T.map (·.2)=a2S (nam (ord S)) (S.obs.take i)∧Aside (Fw w b1 b2 bs (stV A2 S) y31 S n2 W2 v T wr))
 case atStart=>exact⟨0,_,[],rfl,rfl,Nat.zero_le _,Nat.le_refl _,rfl,F0⟩
 case round=>
  clear F0
  obtain⟨i,v,T,rfl,rfl,hi,hkx,hM,F1⟩:=hrel
  have HM:Hid _:=hM
  clear hM
  have wj:IntKind.i64.wrap ((i:Int)+1)=(i:Int)+1:=by rw[IntKind.wrap_i64];omega
  have c1:=a0B (a0A F1.out.x.c1) (j:=1) (v:=.slice A2.o.a S.obs.length A2.o.c) rfl
  obtain⟨va,vc,hva⟩:=a0o F1.out.o
  have hTl:T.length=i:=by
   have:=congrArg List.length HM.out
   rw[List.length_map,a7r,List.length_take]at this
   omega
  have HTL:Hid _:=hTl
  have hTn:T.length≤900:=by omega
  clear hTl
  subst hva
  by_cases hlt:i<S.obs.length
  ·have hltz:(i:Int)<(S.obs.length:Int):=by omega
   obtain⟨B,O,hB,_,_,hc⟩:=I3.out.o.ld P hlt rfl
   rw[hB]at c1
   have lA:=hc wr F1.out.q
   rw[←HK.out]at lA
   have hE:=I3.out.o.e i _ (List.getElem?_eq_getElem hlt)
   have hT:=b2i (nam (ord S)) (S.obs.take i) S.obs[i]
   rw[←List.take_succ_eq_append_getElem hlt]at hT
   clear hc hB
   generalize S.obs[i]=x at lA hE hT
   have HT:Hid _:=hT
   have HE:Aside (RowsI bs n2 W2 (A2.o.ad i) 4 (x.effs.map fun e=>(efV e).toArray)):=hE
   clear hT hE
   have sA:=a0P P (a0q wr y41 41) (obV x (.slice (A2.o.ad i) x.effs.length (A2.o.cp i))) HY.out (a1P _ _ rfl)
   have g1:Below wr.heap.size wr ((wr.alloc (.cells y41.toArray 41)).setCells wr.heap.size 0 (obV x (.slice (A2.o.ad i) x.effs.length (A2.o.cp i)))):=a0N (.refl _ _) (Nat.le_refl _) (Gr.sets (W:=wr) _ (Nat.le_refl _) _ _ ((Gr.refl _).alloc _))
   have b1':=a0Y (a0T wr (.cells y41.toArray 41)) (obV x (.slice (A2.o.ad i) x.effs.length (A2.o.cp i))) HY.out
   have G1:Aside _:=g1
   have B1:Aside _:=b1'
   clear g1 b1'
   generalize hX0:obV x (.slice (A2.o.ad i) x.effs.length (A2.o.cp i))=X0 at lA sA G1 B1
   have HX0:Hid _:=hX0
   have x1':X0.length=k41:=by rw[HK.out,←HX0.out];rfl
   clear hX0
   go_upto_region 8 with fail
   clear lA sA c1
   have F2:Aside _:=F1.out.call G1.out
   have h0:=H41.out oa (ord S) oc x.id ((wr.alloc (.cells y41.toArray 41)).setCells wr.heap.size 0 X0) bs n2 HOL.out (Nat.le_trans F1.out.hn G1.out.size) (RowsI.kp RO3.out F2.out.q)
   rw[HOE.out]at h0
   generalize (wr.alloc (.cells y41.toArray 41)).setCells wr.heap.size 0 X0=U1 at G1 B1 h0 ⊢
   generalize hnm0:nam (ord S) x.id=q0 at h0
   have HNM0:Hid _:=hnm0
   have c0:=a0B (a0A B1.out) (j:=0) (v:=.int .i64 x.id) (by rw[←HX0.out];rfl)
   have f0:=(a0A B1.out 0 (by rw[←HX0.out];show 0<14;decide)).2
   clear F2 hnm0
   go_upto_region 9 with(go_at_fn 41;refine h0.mono ?_;rintro e w2 ⟨rfl,hw⟩;obtain rfl:=hw.symm)
   clear c0 f0 h0
   have G2:Aside _:=G1.out.setCell (p:=⟨wr.heap.size,0,none⟩) (Nat.le_refl _) (.int .i64 q0)
   have B2:Aside _:=a1X B1.out 0 (.int .i64 q0)
   clear G1 B1
   have F2:Aside _:=F1.out.call G2.out
   have h0:=H41.out oa (ord S) oc x.block (U1.setCell ⟨wr.heap.size,0,none⟩ (.int .i64 q0)) bs n2 HOL.out (Nat.le_trans F1.out.hn G2.out.size) (RowsI.kp RO3.out F2.out.q)
   rw[HOE.out]at h0
   generalize U1.setCell ⟨wr.heap.size,0,none⟩ (.int .i64 q0)=U2 at G2 B2 h0 ⊢
   generalize hnm1:nam (ord S) x.block=q1 at h0
   have HNM1:Hid _:=hnm1
   have c0:=a0B (a0A B2.out) (j:=11) (v:=.int .i64 x.block) (by rw[←HX0.out];rfl)
   have f0:=(a0A B2.out 11 (by rw[←HX0.out];show 11<14;decide)).2
   clear F2 hnm1
   go_upto_region 10 with(go_at_fn 41;refine h0.mono ?_;rintro e w2 ⟨rfl,hw⟩;obtain rfl:=hw.symm)
   clear c0 f0 h0
   have G3:Aside _:=G2.out.setCell (p:=⟨wr.heap.size,11,none⟩) (Nat.le_refl _) (.int .i64 q1)
   have B3:Aside _:=a1X B2.out 11 (.int .i64 q1)
   clear G2 B2
   have hX5:(X0.set 0 (.int .i64 q0)).set 11 (.int .i64 q1)=obV (rnO (nam (ord S)) x) (.slice (A2.o.ad i) x.effs.length (A2.o.cp i)):=by rw[←HX0.out,←HNM0.out,←HNM1.out];rfl
   generalize U2.setCell ⟨wr.heap.size,11,none⟩ (.int .i64 q1)=U3 at G3 B3 ⊢
   generalize hX:(X0.set 0 (.int .i64 q0)).set 11 (.int .i64 q1)=X5 at B3 hX5
   have HX5:Hid _:=hX5
   have x5l:X5.length=k41:=by rw[HK.out,HX5.out];rfl
   have x50:X5[0]? =some (.int .i64 q0):=by rw[HX5.out,←HNM0.out];rfl
   have HX50:Aside _:=x50
   have hq0:(rnO (nam (ord S)) x).id=q0:=HNM0.out
   have HQ0:Hid _:=hq0
   clear hX hX5 x1' x50 hq0
   have F3:Aside _:=F1.out.call G3.out
   generalize hbo:wr.heap.size=bo at B3 ⊢
   have HBO:Hid _:=hbo
   clear hbo F1
   go_upto_block 2 with fail
   go_cut [7]from 13 to 65 (fun s7 wc=> ∃at':Nat,s7= .int .i64 at'∧at'≤T.length∧Hid (at'=a6u (T.map fun p:Value×Obd=>p.2) q0 T.length)∧Aside (Gr U3 wc))
   case first=>
    go_wp2_with fail
    go_loopg [7] T.length (fun ke s7 wr3=> ∃at':Nat,s7= .int .i64 at'∧at'≤T.length∧at'≤ke∧Hid (a6u (T.map fun p:Value×Obd=>p.2) q0 at'=a6u (T.map fun p:Value×Obd=>p.2) q0 T.length)∧Aside (Gr U3 wr3))
    case atStart=>exact⟨T.length,rfl,Nat.le_refl _,Nat.le_refl _,Eq.refl _,Gr.refl _⟩
    case round=>
     obtain⟨at',rfl,ha2,hke,HG,O3⟩:=hrel
     have FF:Aside _:=F3.out.call (a3k O3.out)
     by_cases hgt:0<at'
     ·obtain⟨m,rfl⟩: ∃m,at'=m+1:=⟨at'-1,by omega⟩
      have hd:decide (((m+1:Nat):Int)>0)=true:=decide_eq_true (by omega)
      have hd2:decide ((m:Int)+1>0)=true:=decide_eq_true (by omega)
      have wm:IntKind.i64.wrap (m:Int)=(m:Int):=by rw[IntKind.wrap_i64];omega
      obtain⟨og,oc3,hog⟩: ∃g c,(Value.slice va T.length vc)= .slice (some ⟨g,0,none⟩) T.length c:=by
       rcases FF.out.o.2 with⟨_,h0⟩|⟨g,c,cur,h,_⟩
       ·omega
       ·exact⟨g,c,h⟩
      injection hog with hog _ hoc
      subst hog hoc
      have hm:m<T.length:=by omega
      have hmz:(m:Int)<(T.length:Int):=by omega
      have z3':=(FF.out.o.cellAt (m*14) (by omega)).trans ((a5B (f:=obF) (k:=14) (fun _=>rfl) T m 0 hm (by decide)).trans (show _=some (.int .i64 T[m].2.id)from rfl))
      rw[←HK.out]at z3'
      have c3:=a0B (a0A (a0M B3.out O3.out)) HX50.out
      have hzz:T[m].2.id=((T.map fun p:Value×Obd=>p.2)[m]!).id:=by
       rw[getElem!_pos (T.map fun p:Value×Obd=>p.2) m (by simpa using hm),List.getElem_map]
      generalize T[m].2.id=z at z3' hzz
      have HZ:Hid _:=hzz
      clear hzz
      by_cases hzx:z>q0
      ·have hzd:decide (z>q0)=true:=decide_eq_true hzx
       have HG2:Hid (a6u (T.map fun p:Value×Obd=>p.2) q0 m=a6u (T.map fun p:Value×Obd=>p.2) q0 T.length):=by
        show _=_
        rw[←HG.out]
        show _=if q0<_ then _ else _
        rw[if_pos (by rw[←HZ.out];exact hzx)]
       clear hzx FF
       go_wp2
       go_big_region_o
       go_wp2
       go_roundg m
       case measure=>omega
       case rel=>exact⟨m,by first|rfl|go_num,by omega,Nat.le_refl _,HG2,O3.out.trans ((Gr.refl _).drew)⟩
      ·have hzd:decide (z>q0)=false:=decide_eq_false hzx
       have HG2:Hid (m+1=a6u (T.map fun p:Value×Obd=>p.2) q0 T.length):=by
        show _=_
        rw[←HG.out]
        show _=if q0<_ then _ else _
        rw[if_neg (by rw[←HZ.out];exact hzx)]
       clear hzx FF
       go_wp2
       go_big_region_o
       go_wp2
       go_meet
       case rel=>exact⟨m+1,rfl,ha2,HG2,O3.out.trans ((Gr.refl _).drew)⟩
     ·have hd:decide ((at':Int)>0)=false:=decide_eq_false (by omega)
      obtain rfl:at'=0:=by omega
      have HG2:Hid (0=a6u (T.map fun p:Value×Obd=>p.2) q0 T.length):=HG.out
      clear FF
      go_wp2
      go_big_region_o
      go_wp2
      go_meet
      case rel=>exact⟨0,rfl,Nat.zero_le _,HG2,O3.out.trans ((Gr.refl _).drew)⟩
   case rest=>
    obtain⟨at',rfl,ha2,HB2,O3⟩:=hcut
    have haz:(at':Int)≤(T.length:Int):=by omega
    have F4:Aside _:=F3.out.call (a3k O3.out)
    have B4:Aside _:=a0M B3.out O3.out
    clear F3 B3 G3
    have hT2:(T.take at'++ [(Value.slice (A2.o.ad i) x.effs.length (A2.o.cp i),rnO (nam (ord S)) x)]++T.drop at').map (·.2)=a2S (nam (ord S)) (S.obs.take (i+1)):=by
     rw[b4a T _ _ at' (by rw[HQ0.out,List.length_map];exact HB2.out),HM.out,HT.out]
    have HT2:Hid _:=hT2
    clear hT2
    have hone: ∀p∈T.take at'++ [(Value.slice (A2.o.ad i) x.effs.length (A2.o.cp i),rnO (nam (ord S)) x)]++T.drop at',p.1.oneCell'=true∧ ∃a c,p.1= .slice a p.2.effs.length c∧RowsI bs n2 W2 a 4 (p.2.effs.map fun e=>(efV e).toArray):=by
     intro p hp
     rcases List.mem_append.1 hp with hp|hp
     ·rcases List.mem_append.1 hp with hp|hp
      ·exact F4.out.e p (List.mem_of_mem_take hp)
      ·rw[List.mem_singleton.1 hp]
       exact⟨rfl,_,_,rfl,HE.out⟩
     ·exact F4.out.e p (List.mem_of_mem_drop hp)
    have HONE:Aside _:=hone
    clear hone
    have lB:=a0I P (a0A B4.out) x5l
    have hfc:=a1h y41 X5 x5l
    have kb1: ¬16777216<k41:=by have:=HK.out;omega
    have kb2: ¬k41=0:=by have:=HK.out;omega
    have o1: ∀p∈T,∀u∈obF p,u.oneCell'=true:=fun p hp=>a1P _ _ (F4.out.e p hp).1
    have O1:Aside _:=o1
    clear o1
    have hz4:bo<wc.heap.size:=a0L B4.out
    have HZ4:Aside _:=hz4
    clear hz4
    rcases F4.out.o.2 with⟨h,h0⟩|⟨g,c,cur,h,hgn,hgc,hc,_⟩
    ·injection h with h1 _ h2
     subst h1 h2
     obtain rfl:T= []:=List.eq_nil_of_length_eq_zero h0
     obtain rfl:at'=0:=by simpa using ha2
     obtain⟨v1,w1,hr1,ho1,hg1⟩:=a7b t23 i41 (by decide) (f:=obF) (fun _=>rfl) (W:=wc) (v:=.slice none 0 0) (base:=wc.heap.size) [] [] (fun x hx=>by cases hx) (World.ownsRow_nil _ _ _ _) (Nat.le_refl _) none 0 0 rfl (fun _=>rfl) (fun ad h=>by cases h) (by simp) (by simp)
     have hg1':wc.grownBy w1 none:=hg1
     rw[List.nil_append]at ho1
     have bb1:Below wc.heap.size wc w1:=(Below.refl _ _).grown hg1' (Nat.le_refl _) fun k hk=>by cases hk
     have lB1:=a0I P (a0A ((bb1.block _ HZ4.out).trans B4.out)) x5l
     obtain⟨v2,w2,hr2,ho2,hg2⟩:=a7b t23 i41 (by decide) (f:=obF) (fun _=>rfl) (W:=w1.alloc (.cells X5.toArray 41)) (v:=v1) (base:=wc.heap.size) ([]) [(Value.slice (A2.o.ad i) x.effs.length (A2.o.cp i),rnO (nam (ord S)) x)] (fun x hx=>by rw[List.mem_singleton.1 hx];exact a1P _ _ rfl) (ho1.alloc _) (by have:=bb1.size;simp;omega) (some ⟨w1.heap.size,0,none⟩) 1 1 rfl (fun h=>by cases h) (fun ad had j u hu=>by
      injection had with had
      subst had
      rw[Addr.add_lit,Nat.zero_add]
      refine a0B (a0q w1 X5 41) ?_
      rw[HX5.out]
      rw[List.flatMap_singleton]at hu
      exact hu) (by simp<;>(try unfold maxLen)<;>omega) (by simp<;>omega)
     have bb2:Below wc.heap.size wc w2:=(bb1.alloc bb1.size (.cells X5.toArray 41)).grown hg2 (by have:=bb1.size;simp;omega) fun k hk=>((ho1.alloc (.cells X5.toArray 41)).lt k hk).1
     obtain⟨v3,w3,hr3,ho3,hg3⟩:=a7b t23 i41 (by decide) (f:=obF) (fun _=>rfl) (W:=w2) (v:=v2) (base:=wc.heap.size) ([]++ [(Value.slice (A2.o.ad i) x.effs.length (A2.o.cp i),rnO (nam (ord S)) x)]) [] (fun x hx=>by cases hx) ho2 bb2.size none 0 0 rfl (fun _=>rfl) (fun ad h=>by cases h) (by simp<;>(try unfold maxLen)<;>omega) (by simp<;>omega)
     have bb3:Below wc.heap.size wc w3:=bb2.grown hg3 bb2.size fun k hk=>(ho2.lt k hk).1
     have o3:w3.ownsRow n2 41 14 v3 (([]:List (Value×Obd)).take 0++ [(Value.slice (A2.o.ad i) x.effs.length (A2.o.cp i),rnO (nam (ord S)) x)]++([]:List (Value×Obd)).drop 0).length ((([]:List (Value×Obd)).take 0++ [(Value.slice (A2.o.ad i) x.effs.length (A2.o.cp i),rnO (nam (ord S)) x)]++([]:List (Value×Obd)).drop 0).flatMap obF):=a1V ho3 F4.out.hn
     have F5:Aside _:=F4.out.next bb3 o3 HONE.out
     clear bb1 bb2 bb3 o3 ho1 ho2 ho3 hg1 hg1' hg2 hg3 F4 B4 O3
     go_wp2_with (first|(at_builtin;refine a0E rfl _ _ #[23,23] rfl (.slice none 0 0) (.slice none 0 0) rfl rfl _ w1 hr1 ?_)|(at_builtin;refine a0E rfl _ _ #[23,23] rfl v1 (.slice (some ⟨w1.heap.size,0,none⟩) 1 1) rfl rfl _ w2 hr2 ?_)|(at_builtin;refine a0E rfl _ _ #[23,23] rfl v2 (.slice none 0 0) rfl rfl _ w3 hr3 ?_))
     all_goals
      go_roundg (S.obs.length-(i+1))
      case measure=>omega
      case rel=>exact⟨i+1,v3,_,rfl,by first|rfl|go_num,by omega,Nat.le_refl _,HT2.out,F5⟩
    ·injection h with h1 _ h2
     subst h1 h2
     have hcz:(at':Int)≤(vc:Int):=by omega
     have hog:wc.ownsRow n2 41 14 (.slice (some ⟨g,0,none⟩) T.length vc) T.length (T.flatMap obF):=F4.out.o
     obtain⟨v1,w1,hr1,ho1,hg1⟩:=a7b t23 i41 (by decide) (f:=obF) (fun _=>rfl) (W:=wc) (v:=.slice none 0 0) (base:=wc.heap.size) [] (T.take at') (fun x hx=>O1.out x (List.mem_of_mem_take hx)) (World.ownsRow_nil _ _ _ _) (Nat.le_refl _) (some ⟨g,0,none⟩) at' vc (by rw[List.length_take,Nat.min_eq_left ha2]) (fun h=>by cases h) (fun ad h=>by injection h with h;subst h;exact b7l (f:=obF) (k:=14) (fun _=>rfl) hog at') (by simp<;>(try unfold maxLen)<;>omega) (by simp<;>omega)
     have hg1':wc.grownBy w1 none:=hg1
     rw[List.nil_append]at ho1
     have bb1:Below wc.heap.size wc w1:=(Below.refl _ _).grown hg1' (Nat.le_refl _) fun k hk=>by cases hk
     have lB1:=a0I P (a0A ((bb1.block _ HZ4.out).trans B4.out)) x5l
     obtain⟨v2,w2,hr2,ho2,hg2⟩:=a7b t23 i41 (by decide) (f:=obF) (fun _=>rfl) (W:=w1.alloc (.cells X5.toArray 41)) (v:=v1) (base:=wc.heap.size) (T.take at') [(Value.slice (A2.o.ad i) x.effs.length (A2.o.cp i),rnO (nam (ord S)) x)] (fun x hx=>by rw[List.mem_singleton.1 hx];exact a1P _ _ rfl) (ho1.alloc _) (by have:=bb1.size;simp;omega) (some ⟨w1.heap.size,0,none⟩) 1 1 rfl (fun h=>by cases h) (fun ad had j u hu=>by
      injection had with had
      subst had
      rw[Addr.add_lit,Nat.zero_add]
      refine a0B (a0q w1 X5 41) ?_
      rw[HX5.out]
      rw[List.flatMap_singleton]at hu
      exact hu) (by simp<;>(try unfold maxLen)<;>omega) (by simp<;>omega)
     have bb2:Below wc.heap.size wc w2:=(bb1.alloc bb1.size (.cells X5.toArray 41)).grown hg2 (by have:=bb1.size;simp;omega) fun k hk=>((ho1.alloc (.cells X5.toArray 41)).lt k hk).1
     have o2:w2.ownsRow n2 41 14 (.slice (some ⟨g,0,none⟩) T.length vc) T.length (T.flatMap obF):=a1K hog bb2
     obtain⟨v3,w3,hr3,ho3,hg3⟩:=a7b t23 i41 (by decide) (f:=obF) (fun _=>rfl) (W:=w2) (v:=v2) (base:=wc.heap.size) (T.take at'++ [(Value.slice (A2.o.ad i) x.effs.length (A2.o.cp i),rnO (nam (ord S)) x)]) (T.drop at') (fun x hx=>O1.out x (List.mem_of_mem_drop hx)) ho2 bb2.size (if vc=at' then some ⟨g,0,none⟩else some ⟨g,at'*k41,none⟩) (T.length-at') (vc-at') (by rw[List.length_drop]) (fun h=>by split at h<;>cases h)
      (fun ad had j u hu=>by
      split at had
      ·rw[List.drop_of_length_le (by omega)]at hu
       simp at hu
      ·injection had with had
       subst had
       rw[HK.out]
       exact b7m (f:=obF) (k:=14) (fun _=>rfl) o2 at' j u hu) (by simp<;>(try unfold maxLen)<;>omega) (by simp<;>omega)
     have bb3:Below wc.heap.size wc w3:=bb2.grown hg3 bb2.size fun k hk=>(ho2.lt k hk).1
     have o3:=a1V ho3 F4.out.hn
     have F5:Aside _:=F4.out.next bb3 o3 HONE.out
     clear bb1 bb2 bb3 o3 ho1 ho2 ho3 hg1 hg1' hg2 hg3 F4 B4 O3 o2 hog hgc hgn
     go_wp2_with (first|(at_builtin;refine a0E rfl _ _ #[23,23] rfl (.slice none 0 0) (.slice (some ⟨g,0,none⟩) at' vc) rfl rfl _ w1 hr1 ?_)|(at_builtin;refine a0E rfl _ _ #[23,23] rfl v1 (.slice (some ⟨w1.heap.size,0,none⟩) 1 1) rfl rfl _ w2 hr2 ?_)|(at_builtin;refine a0E rfl _ _ #[23,23] rfl v2 (.slice (if vc=at' then some ⟨g,0,none⟩else some ⟨g,at'*k41,none⟩) (T.length-at') (vc-at')) rfl rfl _ w3 hr3 ?_))
     all_goals
      go_roundg (S.obs.length-(i+1))
      case measure=>omega
      case rel=>exact⟨i+1,v3,_,rfl,by first|rfl|go_num,by omega,Nat.le_refl _,HT2.out,F5⟩
  ·have hltz: ¬(i:Int)<(S.obs.length:Int):=by omega
   obtain rfl:i=S.obs.length:=by omega
   have hT:=HM.out
   rw[List.take_length]at hT
   obtain⟨Ao,hA',hN⟩:=F1.out.nst HBN.out
   rw[hT]at hA' hN
   have f1:=(a0A F1.out.x.c1 1 (by show 1<25;decide)).2
   have XX:Aside _:=(F1.out.x.put (A':={a1b with p:=A2.p,o:=Ao}) (S':={bare S with pl:=S.pl,obs:=a2S (nam (ord S)) S.obs}) (fun d=>{d with p:=(RowsI.kp I3.out.p F1.out.q).mono (Nat.le_refl _) F1.out.hn,o:=hN})).set 1 (.slice Ao.a (a2S (nam (ord S)) S.obs).length Ao.c)
   have QQ:Aside _:=F1.out.q.trans (Kp.set (.inl F1.out.x.h2) wr 1 (.slice Ao.a (a2S (nam (ord S)) S.obs).length Ao.c))
   have NN:Aside (n2≤(wr.setCell ⟨b1,1,none⟩ (.slice Ao.a (a2S (nam (ord S)) S.obs).length Ao.c)).heap.size):=by rw[World.size_setCell];exact F1.out.hn
   have hll:T.length=(a2S (nam (ord S)) S.obs).length:=by rw[HTL.out,a7r]
   have hvs:Value.slice va T.length vc= .slice Ao.a (a2S (nam (ord S)) S.obs).length Ao.c:=hA'
   rw[hvs]
   clear hN hT F1 hA' hvs hll
   go_upto_region 18 with fail
   clear c1 f1
   generalize wr.setCell ⟨b1,1,none⟩ (.slice Ao.a (a2S (nam (ord S)) S.obs).length Ao.c)=W3 at XX QQ NN ⊢
   have hXX:(stV A2 S).set 1 (.slice Ao.a (a2S (nam (ord S)) S.obs).length Ao.c)=stV {A2 with p:=A2.p,o:=Ao} {S with pl:=S.pl,obs:=a2S (nam (ord S)) S.obs}:=rfl
   rw[hXX]at XX
   clear hXX
   have X3:Aside _:=XX
   have Q3:Aside _:=QQ
   have N3:Aside _:=NN
   clear XX QQ NN
   have cc:=a0B (a0A X3.out.c1) (j:=2) (v:=.slice A2.l.a S.libs.length A2.l.c) rfl
   have hh1:=H42.out oa (ord S) oc A2.l S.libs W3 bs n2 bs n2 HOL.out HB.out.libs.1 HB.out.libs.2 N3.out N3.out (RowsI.kp RO3.out Q3.out) (I3.out.l.kp Q3.out)
   rw[HOE.out]at hh1
   go_upto_region 19 with(go_at_fn 42;refine hh1.mono ?_;rintro e V4 ⟨A13,rfl,hL,hb⟩;have cc2:=a0B (a0A (X3.out.call hb).c1) (j:=2) (v:=.slice A2.l.a S.libs.length A2.l.c) rfl;have ff2:=(a0A (X3.out.call hb).c1 2 (by show 2<25;decide)).2;have X4:Aside _:=X3.out.step hb (A':={a1b with p:=A2.p,o:=Ao,l:=A13}) (S':={bare S with pl:=S.pl,obs:=a2S (nam (ord S)) S.obs,libs:=S.libs.map (·.map (nam (ord S)))}) (fun d=>{d with l:=hL.mono X3.out.hs (Nat.le_refl _)}) 2 (.slice A13.a S.libs.length A13.c);have Q4:Aside (Kp bs n2 W2 _):=Kp.trans (Kp.trans Q3.out ((Kp.below hb bs).mono (Nat.le_refl _) N3.out)) (Kp.set (.inl X3.out.h2) V4 2 (.slice A13.a S.libs.length A13.c));have N4:Aside (n2≤(V4.setCell ⟨b1,2,none⟩ (.slice A13.a S.libs.length A13.c)).heap.size):=(by rw[World.size_setCell];exact Nat.le_trans N3.out hb.size);clear hL hb)
   clear cc cc2 ff2 hh1 X3 Q3 N3
   generalize V4.setCell ⟨b1,2,none⟩ (.slice A13.a S.libs.length A13.c)=W4 at X4 Q4 N4 ⊢
   have hXX:(stV {A2 with p:=A2.p,o:=Ao} {S with pl:=S.pl,obs:=a2S (nam (ord S)) S.obs}).set 2 (.slice A13.a S.libs.length A13.c)=stV {A2 with p:=A2.p,o:=Ao,l:=A13} {S with pl:=S.pl,obs:=a2S (nam (ord S)) S.obs,libs:=S.libs.map (·.map (nam (ord S)))}:=by simp only[stV,List.set,List.length_map]
   rw[hXX]at X4
   clear hXX
   have cc:=a0B (a0A X4.out.c1) (j:=3) (v:=.slice A2.h.a S.hands.length A2.h.c) rfl
   have hh1:=H42.out oa (ord S) oc A2.h S.hands W4 bs n2 bs n2 HOL.out HB.out.hands.1 HB.out.hands.2 N4.out N4.out (RowsI.kp RO3.out Q4.out) (I3.out.h.kp Q4.out)
   rw[HOE.out]at hh1
   go_upto_region 20 with(go_at_fn 42;refine hh1.mono ?_;rintro e V5 ⟨A14,rfl,hL,hb⟩;have cc2:=a0B (a0A (X4.out.call hb).c1) (j:=3) (v:=.slice A2.h.a S.hands.length A2.h.c) rfl;have ff2:=(a0A (X4.out.call hb).c1 3 (by show 3<25;decide)).2;have X5:Aside _:=X4.out.step hb (A':={a1b with p:=A2.p,o:=Ao,l:=A13,h:=A14}) (S':={bare S with pl:=S.pl,obs:=a2S (nam (ord S)) S.obs,libs:=S.libs.map (·.map (nam (ord S))),hands:=S.hands.map (·.map (nam (ord S)))}) (fun d=>{d with h:=hL.mono X4.out.hs (Nat.le_refl _)}) 3 (.slice A14.a S.hands.length A14.c);have Q5:Aside (Kp bs n2 W2 _):=Kp.trans (Kp.trans Q4.out ((Kp.below hb bs).mono (Nat.le_refl _) N4.out)) (Kp.set (.inl X4.out.h2) V5 3 (.slice A14.a S.hands.length A14.c));have N5:Aside (n2≤(V5.setCell ⟨b1,3,none⟩ (.slice A14.a S.hands.length A14.c)).heap.size):=(by rw[World.size_setCell];exact Nat.le_trans N4.out hb.size);clear hL hb)
   clear cc cc2 ff2 hh1 X4 Q4 N4
   generalize V5.setCell ⟨b1,3,none⟩ (.slice A14.a S.hands.length A14.c)=W5 at X5 Q5 N5 ⊢
   have hXX:(stV {A2 with p:=A2.p,o:=Ao,l:=A13} {S with pl:=S.pl,obs:=a2S (nam (ord S)) S.obs,libs:=S.libs.map (·.map (nam (ord S)))}).set 3 (.slice A14.a S.hands.length A14.c)=stV {A2 with p:=A2.p,o:=Ao,l:=A13,h:=A14} {S with pl:=S.pl,obs:=a2S (nam (ord S)) S.obs,libs:=S.libs.map (·.map (nam (ord S))),hands:=S.hands.map (·.map (nam (ord S)))}:=by simp only[stV,List.set,List.length_map]
   rw[hXX]at X5
   clear hXX
   have cc:=a0B (a0A X5.out.c1) (j:=4) (v:=.slice A2.g.a S.graves.length A2.g.c) rfl
   have hh1:=H42.out oa (ord S) oc A2.g S.graves W5 bs n2 bs n2 HOL.out HB.out.graves.1 HB.out.graves.2 N5.out N5.out (RowsI.kp RO3.out Q5.out) (I3.out.g.kp Q5.out)
   rw[HOE.out]at hh1
   go_upto_region 21 with(go_at_fn 42;refine hh1.mono ?_;rintro e V6 ⟨A15,rfl,hL,hb⟩;have cc2:=a0B (a0A (X5.out.call hb).c1) (j:=4) (v:=.slice A2.g.a S.graves.length A2.g.c) rfl;have ff2:=(a0A (X5.out.call hb).c1 4 (by show 4<25;decide)).2;have X6:Aside _:=X5.out.step hb (A':={a1b with p:=A2.p,o:=Ao,l:=A13,h:=A14,g:=A15}) (S':={bare S with pl:=S.pl,obs:=a2S (nam (ord S)) S.obs,libs:=S.libs.map (·.map (nam (ord S))),hands:=S.hands.map (·.map (nam (ord S))),graves:=S.graves.map (·.map (nam (ord S)))}) (fun d=>{d with g:=hL.mono X5.out.hs (Nat.le_refl _)}) 4 (.slice A15.a S.graves.length A15.c);have Q6:Aside (Kp bs n2 W2 _):=Kp.trans (Kp.trans Q5.out ((Kp.below hb bs).mono (Nat.le_refl _) N5.out)) (Kp.set (.inl X5.out.h2) V6 4 (.slice A15.a S.graves.length A15.c));have N6:Aside (n2≤(V6.setCell ⟨b1,4,none⟩ (.slice A15.a S.graves.length A15.c)).heap.size):=(by rw[World.size_setCell];exact Nat.le_trans N5.out hb.size);clear hL hb)
   clear cc cc2 ff2 hh1 X5 Q5 N5
   generalize V6.setCell ⟨b1,4,none⟩ (.slice A15.a S.graves.length A15.c)=W6 at X6 Q6 N6 ⊢
   have hXX:(stV {A2 with p:=A2.p,o:=Ao,l:=A13,h:=A14} {S with pl:=S.pl,obs:=a2S (nam (ord S)) S.obs,libs:=S.libs.map (·.map (nam (ord S))),hands:=S.hands.map (·.map (nam (ord S)))}).set 4 (.slice A15.a S.graves.length A15.c)=stV {A2 with p:=A2.p,o:=Ao,l:=A13,h:=A14,g:=A15} {S with pl:=S.pl,obs:=a2S (nam (ord S)) S.obs,libs:=S.libs.map (·.map (nam (ord S))),hands:=S.hands.map (·.map (nam (ord S))),graves:=S.graves.map (·.map (nam (ord S)))}:=by simp only[stV,List.set,List.length_map]
   rw[hXX]at X6
   clear hXX
   have cc:=a0B (a0A X6.out.c1) (j:=5) (v:=.slice A2.x.a S.exiles.length A2.x.c) rfl
   have hh1:=H42.out oa (ord S) oc A2.x S.exiles W6 bs n2 bs n2 HOL.out HB.out.exiles.1 HB.out.exiles.2 N6.out N6.out (RowsI.kp RO3.out Q6.out) (I3.out.x.kp Q6.out)
   rw[HOE.out]at hh1
   go_upto_region 22 with(go_at_fn 42;refine hh1.mono ?_;rintro e V7 ⟨A16,rfl,hL,hb⟩;have cc2:=a0B (a0A (X6.out.call hb).c1) (j:=5) (v:=.slice A2.x.a S.exiles.length A2.x.c) rfl;have ff2:=(a0A (X6.out.call hb).c1 5 (by show 5<25;decide)).2;have X7:Aside _:=X6.out.step hb (A':={a1b with p:=A2.p,o:=Ao,l:=A13,h:=A14,g:=A15,x:=A16}) (S':={bare S with pl:=S.pl,obs:=a2S (nam (ord S)) S.obs,libs:=S.libs.map (·.map (nam (ord S))),hands:=S.hands.map (·.map (nam (ord S))),graves:=S.graves.map (·.map (nam (ord S))),exiles:=S.exiles.map (·.map (nam (ord S)))}) (fun d=>{d with x:=hL.mono X6.out.hs (Nat.le_refl _)}) 5 (.slice A16.a S.exiles.length A16.c);have Q7:Aside (Kp bs n2 W2 _):=Kp.trans (Kp.trans Q6.out ((Kp.below hb bs).mono (Nat.le_refl _) N6.out)) (Kp.set (.inl X6.out.h2) V7 5 (.slice A16.a S.exiles.length A16.c));have N7:Aside (n2≤(V7.setCell ⟨b1,5,none⟩ (.slice A16.a S.exiles.length A16.c)).heap.size):=(by rw[World.size_setCell];exact Nat.le_trans N6.out hb.size);clear hL hb)
   clear cc cc2 ff2 hh1 X6 Q6 N6
   generalize V7.setCell ⟨b1,5,none⟩ (.slice A16.a S.exiles.length A16.c)=W7 at X7 Q7 N7 ⊢
   have hXX:(stV {A2 with p:=A2.p,o:=Ao,l:=A13,h:=A14,g:=A15} {S with pl:=S.pl,obs:=a2S (nam (ord S)) S.obs,libs:=S.libs.map (·.map (nam (ord S))),hands:=S.hands.map (·.map (nam (ord S))),graves:=S.graves.map (·.map (nam (ord S)))}).set 5 (.slice A16.a S.exiles.length A16.c)=stV {A2 with p:=A2.p,o:=Ao,l:=A13,h:=A14,g:=A15,x:=A16} {S with pl:=S.pl,obs:=a2S (nam (ord S)) S.obs,libs:=S.libs.map (·.map (nam (ord S))),hands:=S.hands.map (·.map (nam (ord S))),graves:=S.graves.map (·.map (nam (ord S))),exiles:=S.exiles.map (·.map (nam (ord S)))}:=by simp only[stV,List.set,List.length_map]
   rw[hXX]at X7
   clear hXX
   have cc:=a0B (a0A X7.out.c1) (j:=6) (v:=.slice A2.f.a S.field.length A2.f.c) rfl
   have hh1:=H43.out oa (ord S) oc A2.f.a S.field A2.f.c W7 bs n2 bs n2 HOL.out HB.out.field N7.out N7.out (RowsI.kp RO3.out Q7.out) (RowsI.kp I3.out.f Q7.out)
   rw[HOE.out]at hh1
   go_upto_region 23 with(go_at_fn 43;refine hh1.mono ?_;rintro e V8 ⟨vv,rfl,hL,hb⟩;obtain⟨a7,c7,rfl⟩:=a0o hL;rw[←a1D]at hL;have cc2:=a0B (a0A (X7.out.call hb).c1) (j:=6) (v:=.slice A2.f.a S.field.length A2.f.c) rfl;have ff2:=(a0A (X7.out.call hb).c1 6 (by show 6<25;decide)).2;have X8:Aside _:=X7.out.step hb (A':={a1b with p:=A2.p,o:=Ao,l:=A13,h:=A14,g:=A15,x:=A16,f:=⟨a7,c7,a0G.ad,a0G.cp⟩}) (S':={bare S with pl:=S.pl,obs:=a2S (nam (ord S)) S.obs,libs:=S.libs.map (·.map (nam (ord S))),hands:=S.hands.map (·.map (nam (ord S))),graves:=S.graves.map (·.map (nam (ord S))),exiles:=S.exiles.map (·.map (nam (ord S))),field:=S.field.map (nam (ord S))}) (fun d=>{d with f:=(a0u hL (by rw[List.length_map]) fun _=>rfl).mono X7.out.hs (Nat.le_refl _)}) 6 (.slice a7 S.field.length c7);have Q8:Aside (Kp bs n2 W2 _):=Kp.trans (Kp.trans Q7.out ((Kp.below hb bs).mono (Nat.le_refl _) N7.out)) (Kp.set (.inl X7.out.h2) V8 6 (.slice a7 S.field.length c7));have N8:Aside (n2≤(V8.setCell ⟨b1,6,none⟩ (.slice a7 S.field.length c7)).heap.size):=(by rw[World.size_setCell];exact Nat.le_trans N7.out hb.size);clear hL hb)
   clear cc cc2 ff2 hh1 X7 Q7 N7
   generalize V8.setCell ⟨b1,6,none⟩ (.slice a7 S.field.length c7)=W8 at X8 Q8 N8 ⊢
   have hXX:(stV {A2 with p:=A2.p,o:=Ao,l:=A13,h:=A14,g:=A15,x:=A16} {S with pl:=S.pl,obs:=a2S (nam (ord S)) S.obs,libs:=S.libs.map (·.map (nam (ord S))),hands:=S.hands.map (·.map (nam (ord S))),graves:=S.graves.map (·.map (nam (ord S))),exiles:=S.exiles.map (·.map (nam (ord S)))}).set 6 (.slice a7 S.field.length c7)=stV {A2 with p:=A2.p,o:=Ao,l:=A13,h:=A14,g:=A15,x:=A16,f:=⟨a7,c7,a0G.ad,a0G.cp⟩} {S with pl:=S.pl,obs:=a2S (nam (ord S)) S.obs,libs:=S.libs.map (·.map (nam (ord S))),hands:=S.hands.map (·.map (nam (ord S))),graves:=S.graves.map (·.map (nam (ord S))),exiles:=S.exiles.map (·.map (nam (ord S))),field:=S.field.map (nam (ord S))}:=by simp only[stV,List.set,List.length_map]
   rw[hXX]at X8
   clear hXX
   have cc:=a0B (a0A X8.out.c1) (j:=7) (v:=.slice A2.s.a S.stack.length A2.s.c) rfl
   have hh1:=H44.out oa (ord S) oc A2.s S.stack W8 bs n2 bs n2 HOL.out HB.out.stack.1 HB.out.stack.2 N8.out N8.out (RowsI.kp RO3.out Q8.out) (I3.out.s.kp Q8.out)
   rw[HOE.out]at hh1
   go_upto_region 24 with(go_at_fn 44;refine hh1.mono ?_;rintro e V9 ⟨A18,rfl,hL,hb⟩;have cc2:=a0B (a0A (X8.out.call hb).c1) (j:=7) (v:=.slice A2.s.a S.stack.length A2.s.c) rfl;have ff2:=(a0A (X8.out.call hb).c1 7 (by show 7<25;decide)).2;have X9:Aside _:=X8.out.step hb (A':={a1b with p:=A2.p,o:=Ao,l:=A13,h:=A14,g:=A15,x:=A16,f:=⟨a7,c7,a0G.ad,a0G.cp⟩,s:=A18}) (S':={bare S with pl:=S.pl,obs:=a2S (nam (ord S)) S.obs,libs:=S.libs.map (·.map (nam (ord S))),hands:=S.hands.map (·.map (nam (ord S))),graves:=S.graves.map (·.map (nam (ord S))),exiles:=S.exiles.map (·.map (nam (ord S))),field:=S.field.map (nam (ord S)),stack:=S.stack.map (nmI (nam (ord S)))}) (fun d=>{d with s:=hL.mono X8.out.hs (Nat.le_refl _)}) 7 (.slice A18.a S.stack.length A18.c);have Q9:Aside (Kp bs n2 W2 _):=Kp.trans (Kp.trans Q8.out ((Kp.below hb bs).mono (Nat.le_refl _) N8.out)) (Kp.set (.inl X8.out.h2) V9 7 (.slice A18.a S.stack.length A18.c));have N9:Aside (n2≤(V9.setCell ⟨b1,7,none⟩ (.slice A18.a S.stack.length A18.c)).heap.size):=(by rw[World.size_setCell];exact Nat.le_trans N8.out hb.size);clear hL hb)
   clear cc cc2 ff2 hh1 X8 Q8 N8
   generalize V9.setCell ⟨b1,7,none⟩ (.slice A18.a S.stack.length A18.c)=W9 at X9 Q9 N9 ⊢
   have hXX:(stV {A2 with p:=A2.p,o:=Ao,l:=A13,h:=A14,g:=A15,x:=A16,f:=⟨a7,c7,a0G.ad,a0G.cp⟩} {S with pl:=S.pl,obs:=a2S (nam (ord S)) S.obs,libs:=S.libs.map (·.map (nam (ord S))),hands:=S.hands.map (·.map (nam (ord S))),graves:=S.graves.map (·.map (nam (ord S))),exiles:=S.exiles.map (·.map (nam (ord S))),field:=S.field.map (nam (ord S))}).set 7 (.slice A18.a S.stack.length A18.c)=stV {A2 with p:=A2.p,o:=Ao,l:=A13,h:=A14,g:=A15,x:=A16,f:=⟨a7,c7,a0G.ad,a0G.cp⟩,s:=A18} {S with pl:=S.pl,obs:=a2S (nam (ord S)) S.obs,libs:=S.libs.map (·.map (nam (ord S))),hands:=S.hands.map (·.map (nam (ord S))),graves:=S.graves.map (·.map (nam (ord S))),exiles:=S.exiles.map (·.map (nam (ord S))),field:=S.field.map (nam (ord S)),stack:=S.stack.map (nmI (nam (ord S)))}:=by simp only[stV,List.set,List.length_map]
   rw[hXX]at X9
   clear hXX
   have cc:=a0B (a0A X9.out.c1) (j:=8) (v:=.slice A2.w.a S.waits.length A2.w.c) rfl
   have hh1:=H44.out oa (ord S) oc A2.w S.waits W9 bs n2 bs n2 HOL.out HB.out.waits.1 HB.out.waits.2 N9.out N9.out (RowsI.kp RO3.out Q9.out) (I3.out.wt.kp Q9.out)
   rw[HOE.out]at hh1
   go_upto_region 25 with(go_at_fn 44;refine hh1.mono ?_;rintro e V10 ⟨A19,rfl,hL,hb⟩;have cc2:=a0B (a0A (X9.out.call hb).c1) (j:=8) (v:=.slice A2.w.a S.waits.length A2.w.c) rfl;have ff2:=(a0A (X9.out.call hb).c1 8 (by show 8<25;decide)).2;have X10:Aside _:=X9.out.step hb (A':={a1b with p:=A2.p,o:=Ao,l:=A13,h:=A14,g:=A15,x:=A16,f:=⟨a7,c7,a0G.ad,a0G.cp⟩,s:=A18,w:=A19}) (S':={bare S with pl:=S.pl,obs:=a2S (nam (ord S)) S.obs,libs:=S.libs.map (·.map (nam (ord S))),hands:=S.hands.map (·.map (nam (ord S))),graves:=S.graves.map (·.map (nam (ord S))),exiles:=S.exiles.map (·.map (nam (ord S))),field:=S.field.map (nam (ord S)),stack:=S.stack.map (nmI (nam (ord S))),waits:=S.waits.map (nmI (nam (ord S)))}) (fun d=>{d with wt:=hL.mono X9.out.hs (Nat.le_refl _)}) 8 (.slice A19.a S.waits.length A19.c);have Q10:Aside (Kp bs n2 W2 _):=Kp.trans (Kp.trans Q9.out ((Kp.below hb bs).mono (Nat.le_refl _) N9.out)) (Kp.set (.inl X9.out.h2) V10 8 (.slice A19.a S.waits.length A19.c));have N10:Aside (n2≤(V10.setCell ⟨b1,8,none⟩ (.slice A19.a S.waits.length A19.c)).heap.size):=(by rw[World.size_setCell];exact Nat.le_trans N9.out hb.size);clear hL hb)
   clear cc cc2 ff2 hh1 X9 Q9 N9
   generalize V10.setCell ⟨b1,8,none⟩ (.slice A19.a S.waits.length A19.c)=W10 at X10 Q10 N10 ⊢
   have hXX:(stV {A2 with p:=A2.p,o:=Ao,l:=A13,h:=A14,g:=A15,x:=A16,f:=⟨a7,c7,a0G.ad,a0G.cp⟩,s:=A18} {S with pl:=S.pl,obs:=a2S (nam (ord S)) S.obs,libs:=S.libs.map (·.map (nam (ord S))),hands:=S.hands.map (·.map (nam (ord S))),graves:=S.graves.map (·.map (nam (ord S))),exiles:=S.exiles.map (·.map (nam (ord S))),field:=S.field.map (nam (ord S)),stack:=S.stack.map (nmI (nam (ord S)))}).set 8 (.slice A19.a S.waits.length A19.c)=stV {A2 with p:=A2.p,o:=Ao,l:=A13,h:=A14,g:=A15,x:=A16,f:=⟨a7,c7,a0G.ad,a0G.cp⟩,s:=A18,w:=A19} {S with pl:=S.pl,obs:=a2S (nam (ord S)) S.obs,libs:=S.libs.map (·.map (nam (ord S))),hands:=S.hands.map (·.map (nam (ord S))),graves:=S.graves.map (·.map (nam (ord S))),exiles:=S.exiles.map (·.map (nam (ord S))),field:=S.field.map (nam (ord S)),stack:=S.stack.map (nmI (nam (ord S))),waits:=S.waits.map (nmI (nam (ord S)))}:=by simp only[stV,List.set,List.length_map]
   rw[hXX]at X10
   clear hXX
   have cc:=a0B (a0A X10.out.c1) (j:=19) (v:=.int .i64 S.cast.obj) rfl
   have ff:=(a0A X10.out.c1 19 (by show 19<25;decide)).2
   have hh1:=H41.out oa (ord S) oc S.cast.obj W10 bs n2 HOL.out N10.out (RowsI.kp RO3.out Q10.out)
   rw[HOE.out]at hh1
   have X11:Aside _:=X10.out.set 19 (.int .i64 (nam (ord S) S.cast.obj))
   have Q11:Aside (Kp bs n2 W2 _):=Kp.trans Q10.out (Kp.set (.inl X10.out.h2) W10 19 (.int .i64 (nam (ord S) S.cast.obj)))
   have N11:Aside (n2≤(W10.setCell ⟨b1,19,none⟩ (.int .i64 (nam (ord S) S.cast.obj))).heap.size):=by rw[World.size_setCell];exact N10.out
   go_upto_region 26 with(go_at_fn 41;refine hh1.mono ?_;rintro e w2 ⟨rfl,hw⟩;obtain rfl:=hw.symm)
   clear cc ff hh1 X10 Q10 N10
   generalize W10.setCell ⟨b1,19,none⟩ (.int .i64 (nam (ord S) S.cast.obj))=W11 at X11 Q11 N11 ⊢
   have hXX:(stV {A2 with p:=A2.p,o:=Ao,l:=A13,h:=A14,g:=A15,x:=A16,f:=⟨a7,c7,a0G.ad,a0G.cp⟩,s:=A18,w:=A19} {S with pl:=S.pl,obs:=a2S (nam (ord S)) S.obs,libs:=S.libs.map (·.map (nam (ord S))),hands:=S.hands.map (·.map (nam (ord S))),graves:=S.graves.map (·.map (nam (ord S))),exiles:=S.exiles.map (·.map (nam (ord S))),field:=S.field.map (nam (ord S)),stack:=S.stack.map (nmI (nam (ord S))),waits:=S.waits.map (nmI (nam (ord S)))}).set 19 (.int .i64 (nam (ord S) S.cast.obj))=stV {A2 with p:=A2.p,o:=Ao,l:=A13,h:=A14,g:=A15,x:=A16,f:=⟨a7,c7,a0G.ad,a0G.cp⟩,s:=A18,w:=A19} {S with pl:=S.pl,obs:=a2S (nam (ord S)) S.obs,libs:=S.libs.map (·.map (nam (ord S))),hands:=S.hands.map (·.map (nam (ord S))),graves:=S.graves.map (·.map (nam (ord S))),exiles:=S.exiles.map (·.map (nam (ord S))),field:=S.field.map (nam (ord S)),stack:=S.stack.map (nmI (nam (ord S))),waits:=S.waits.map (nmI (nam (ord S))),cast:={S.cast with obj:=nam (ord S) S.cast.obj}}:=rfl
   rw[hXX]at X11
   clear hXX
   have cc:=a0B (a0A X11.out.c1) (j:=21) (v:=.slice A2.t.a S.cast.ts.length A2.t.c) rfl
   have hh1:=H45.out oa (ord S) oc A2.t.a S.cast.ts A2.t.c W11 bs n2 bs n2 HOL.out HB.out.ts N11.out N11.out (RowsI.kp RO3.out Q11.out) (RowsI.kp I3.out.t Q11.out)
   rw[HOE.out]at hh1
   go_upto_region 27 with(go_at_fn 45;refine hh1.mono ?_;rintro e V12 ⟨vv,rfl,hL,hb⟩;obtain⟨a11,c11,rfl⟩:=a0o hL;rw[←b2a]at hL;have cc2:=a0B (a0A (X11.out.call hb).c1) (j:=21) (v:=.slice A2.t.a S.cast.ts.length A2.t.c) rfl;have ff2:=(a0A (X11.out.call hb).c1 21 (by show 21<25;decide)).2;have X12:Aside _:=X11.out.step hb (A':={a1b with p:=A2.p,o:=Ao,l:=A13,h:=A14,g:=A15,x:=A16,f:=⟨a7,c7,a0G.ad,a0G.cp⟩,s:=A18,w:=A19,t:=⟨a11,c11,a0G.ad,a0G.cp⟩}) (S':=a6t (nam (ord S)) S) (fun d=>{d with t:=(a0u hL (by rw[List.length_map]) fun _=>rfl).mono X11.out.hs (Nat.le_refl _)}) 21 (.slice a11 S.cast.ts.length c11);clear hL hb)
   clear cc cc2 ff2 hh1 X11 Q11 N11
   generalize V12.setCell ⟨b1,21,none⟩ (.slice a11 S.cast.ts.length c11)=W12 at X12 ⊢
   have hXX:(stV {A2 with p:=A2.p,o:=Ao,l:=A13,h:=A14,g:=A15,x:=A16,f:=⟨a7,c7,a0G.ad,a0G.cp⟩,s:=A18,w:=A19} {S with pl:=S.pl,obs:=a2S (nam (ord S)) S.obs,libs:=S.libs.map (·.map (nam (ord S))),hands:=S.hands.map (·.map (nam (ord S))),graves:=S.graves.map (·.map (nam (ord S))),exiles:=S.exiles.map (·.map (nam (ord S))),field:=S.field.map (nam (ord S)),stack:=S.stack.map (nmI (nam (ord S))),waits:=S.waits.map (nmI (nam (ord S))),cast:={S.cast with obj:=nam (ord S) S.cast.obj}}).set 21 (.slice a11 S.cast.ts.length c11)=stV {A2 with p:=A2.p,o:=Ao,l:=A13,h:=A14,g:=A15,x:=A16,f:=⟨a7,c7,a0G.ad,a0G.cp⟩,s:=A18,w:=A19,t:=⟨a11,c11,a0G.ad,a0G.cp⟩} {S with pl:=S.pl,obs:=a2S (nam (ord S)) S.obs,libs:=S.libs.map (·.map (nam (ord S))),hands:=S.hands.map (·.map (nam (ord S))),graves:=S.graves.map (·.map (nam (ord S))),exiles:=S.exiles.map (·.map (nam (ord S))),field:=S.field.map (nam (ord S)),stack:=S.stack.map (nmI (nam (ord S))),waits:=S.waits.map (nmI (nam (ord S))),cast:={S.cast with obj:=nam (ord S) S.cast.obj,ts:=S.cast.ts.map fun p=>(p.1,nam (ord S) p.2)}}:=by simp only[stV,List.set,List.length_map]
   rw[hXX]at X12
   clear hXX
   have cc:=a0B (a0A X12.out.c1) (j:=15) (v:=.int .i64 S.next) rfl
   have ff:=(a0A X12.out.c1 15 (by show 15<25;decide)).2
   have X13:Aside _:=X12.out.set 15 (.int .i64 0)
   go_upto_region 28 with fail
   clear cc ff X12
   generalize W12.setCell ⟨b1,15,none⟩ (.int .i64 0)=W13 at X13 ⊢
   have hXX:(stV {A2 with p:=A2.p,o:=Ao,l:=A13,h:=A14,g:=A15,x:=A16,f:=⟨a7,c7,a0G.ad,a0G.cp⟩,s:=A18,w:=A19,t:=⟨a11,c11,a0G.ad,a0G.cp⟩} {S with pl:=S.pl,obs:=a2S (nam (ord S)) S.obs,libs:=S.libs.map (·.map (nam (ord S))),hands:=S.hands.map (·.map (nam (ord S))),graves:=S.graves.map (·.map (nam (ord S))),exiles:=S.exiles.map (·.map (nam (ord S))),field:=S.field.map (nam (ord S)),stack:=S.stack.map (nmI (nam (ord S))),waits:=S.waits.map (nmI (nam (ord S))),cast:={S.cast with obj:=nam (ord S) S.cast.obj,ts:=S.cast.ts.map fun p=>(p.1,nam (ord S) p.2)}}).set 15 (.int .i64 0)=stV {a1b with p:=A2.p,o:=Ao,l:=A13,h:=A14,g:=A15,x:=A16,f:=⟨a7,c7,a0G.ad,a0G.cp⟩,s:=A18,w:=A19,t:=⟨a11,c11,a0G.ad,a0G.cp⟩} (a6t (nam (ord S)) S):=rfl
   rw[hXX]at X13
   clear hXX
   generalize ({a1b with p:=A2.p,o:=Ao,l:=A13,h:=A14,g:=A15,x:=A16,f:=⟨a7,c7,a0G.ad,a0G.cp⟩,s:=A18,w:=A19,t:=⟨a11,c11,a0G.ad,a0G.cp⟩}:Lcs)=AF at X13
   generalize hNS:a6t (nam (ord S)) S=SN at X13
   have HNS:Hid _:=hNS
   clear hNS
   generalize hSF:stV AF SN=SF at X13
   have HSF:Hid _:=hSF
   have SFl:SF.length=k31:=by rw[HK1.out,←hSF];rfl
   have SF1: ∀v∈SF,v.oneCell'=true:=by rw[←hSF];exact a4D _ _
   clear hSF
   have lB:=a0I P (a0A X13.out.c1) SFl
   have sB:=a0P P (a0A X13.out.c2) SF (by rw[SFl,HK1.out];exact HY1.out) SF1
   have b2F:=a0Y X13.out.c2 SF (by rw[SFl,HK1.out];exact HY1.out)
   have lF:=a0I P (a0A b2F) SFl
   have BF:Aside _:=a0l X13.out.h3 SF 0 X13.out.b
   have DF:Aside (StI w.heap.size (W13.setCells b2 0 SF).heap.size (W13.setCells b2 0 SF) AF SN):=by rw[a1A];exact(X13.out.d.kp (Kp.sets (.inl X13.out.h4) W13 0 SF)).mono (Nat.le_trans X13.out.h1 (Nat.le_of_lt X13.out.h2)) (Nat.le_refl _)
   clear b2F X13 SF1
   go_wp2
   refine bodyPost_ret (v:=.agg SF.toArray) (by simp[results,go_sem,Try.results11,a31,z31,lF]) rfl ?_
   exact⟨AF,by rw[←HSF.out,HNS.out],by rw[HNS.out];exact DF.out,BF.out⟩
end Go.Proofs.Ytcblehiddfnafaa.canonSame
