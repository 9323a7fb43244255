/-
  Chapter 28: the answer's Order, walked.
-/
import Derived.Test.YtcblehiddfnafaaTxG
namespace Go.Proofs.Ytcblehiddfnafaa.canonSame
open Go.Shelf Go.RowKit Go.Lib Go.Sort
structure Oi(w:World)(b1 bs:Nat)(SL:List Value)(lv:Value)(l:List Int)(W:World):Prop where
 b:Below w.heap.size w W
 c:W.heap[b1]? =some (.cells SL.toArray 31)
 o:W.ownsRow bs 3 1 lv l.length (a0J l)
 hs:bs≤W.heap.size
 h1:w.heap.size≤b1
 h2:b1<bs
theorem Oi.gr{w:World}{b1 bs:Nat}{SL:List Value}{lv:Value}{l:List Int}{W W':World}(h:Oi w b1 bs SL lv l W)(g:Gr W W'):Oi w b1 bs SL lv l W':=
 ⟨a0N h.b h.b.size g,a0M h.c g,h.o.kept (a0i g) (by cases hv:lv.ownBlock<;>simp),Nat.le_trans h.hs (Gr.le g),h.h1,h.h2⟩
theorem Oi.call{w:World}{b1 bs:Nat}{SL:List Value}{lv lv':Value}{l l':List Int}{W W':World}(h:Oi w b1 bs SL lv l W)(hb:Below bs W W')(o:W'.ownsRow bs 3 1 lv' l'.length (a0J l')):Oi w b1 bs SL lv' l' W':=
 ⟨h.b.trans (hb.mono (by have:=h.h1;have:=h.h2;omega)),(hb.block _ h.h2).trans h.c,o,Nat.le_trans h.hs hb.size,h.h1,h.h2⟩
theorem Oi.grown{w:World}{b1 bs:Nat}{SL:List Value}{lv lv':Value}{l l':List Int}{W W':World}(h:Oi w b1 bs SL lv l W)(g:W.grownBy W' lv.ownBlock)(o:W'.ownsRow bs 3 1 lv' l'.length (a0J l')):Oi w b1 bs SL lv' l' W':=
 h.call ((Below.refl _ _).grown g h.hs fun k hk=>(h.o.lt k hk).1) o
theorem Oi.kp{w:World}{b1 bs:Nat}{SL:List Value}{lv:Value}{l:List Int}{W:World}(h:Oi w b1 bs SL lv l W){lo hh:Nat}(hhh:hh≤w.heap.size):Kp lo hh w W:=(Kp.below h.b lo).mono (Nat.le_refl _) hhh
theorem a5p{P:Program}{t e k b:Nat}(ht:P.underlying t=some (.slice e))(hi:Inf P e k b)(hk:0<k){W:World}{v:Value}{base n:Nat}{X:List Value}(ho:W.ownsRow base e k v n X)(hbase:base≤W.heap.size)(f:Nat→List Value)(m:Nat)(hf: ∀i,i<m→(f i).length=k)(h1: ∀i,i<m→ ∀u∈f i,u.oneCell'=true){lo hh:Nat}{a:Option Addr}(c:Nat)(hR:RowsI lo hh W a k ((List.range m).map fun i=>(f i).toArray))(h63:n+m≤maxLen)(hby:(n+m)*b≤140737488355328):
  ∃v' w',(Builtin.append_ #[t,t] t #[v,.slice a m c]).run P W= .ok v' w'∧w'.ownsRow base e k v' (n+m) (X++a2D f m)∧W.grownBy w' v.ownBlock:=by
 obtain⟨i,z,i1,i2,i3,i4,i5⟩:=hi
 have hl:=a2O hf
 obtain⟨v',w',a1,a2,a3⟩:=a2J (P:=P) (ty:=t) (t:=t) (tx:=t) ht ht i1 i2 (by rw[i4];exact i3) (by rw[i4];exact hk) (by rw[i4];exact ho) a m c (a2D f m) (by rw[i4,hl]) (fun h=>by
   rcases hR with h'|⟨B,O,e,_⟩
   ·have:=congrArg List.length h'
    simpa using this
   ·rw[h]at e;cases e)
  (fun ad had j u hu=>by
   have hj:=(List.getElem?_eq_some_iff.1 hu).1
   rw[hl]at hj
   have hd:j/k<m:=(Nat.div_lt_iff_lt_mul hk).2 hj
   have hm:=Nat.mod_lt j hk
   rcases hR with h'|⟨B,O,e,_,_,h'⟩
   ·have h0:m=0:=by simpa using congrArg List.length h'
    rw[h0]at hd
    exact absurd hd (Nat.not_lt_zero _)
   ·rw[had]at e
    injection e with e
    subst e
    have:=a2l hf (j/k) (j%k) hd hm
    have ej:j/k*k+j%k=j:=by rw[Nat.mul_comm];exact Nat.div_add_mod j k
    rw[ej,hu]at this
    have:=h' (j/k) (f (j/k)).toArray (by simp[hd]) (j%k) u (by simpa using this.symm)
    rw[Addr.add_lit]
    rwa [Nat.add_assoc,ej]at this)
  (fun u hu=>by
   unfold a2D at hu
   obtain⟨x,hx,hx'⟩:=List.mem_flatMap.1 hu
   exact h1 x (List.mem_range.1 hx) u hx') h63 (Nat.le_trans (Nat.mul_le_mul_left _ i5) hby) hbase
 rw[i4]at a2
 exact⟨v',w',a1,a2,a3⟩
def fI(A:Loc)(xs:List Itm)(i:Nat):List Value:=match xs[i]? with|some x=>a0f x (.slice (A.ad i) x.ts.length (A.cp i))|none=>[]
theorem a8G(A:Loc){xs:List Itm}{i:Nat}(h:i<xs.length):fI A xs i=a0f xs[i] (.slice (A.ad i) xs[i].ts.length (A.cp i)):=by
 unfold fI
 rw[List.getElem?_eq_getElem h]
theorem a8H{lo hh:Nat}{w:World}{A:Loc}{xs:List Itm}(h:ItsI lo hh w A xs):RowsI lo hh w A.a 7 ((List.range xs.length).map fun i=>(fI A xs i).toArray):=by
 refine Eq.mp (congrArg (RowsI lo hh w A.a 7) ?_) h.r
 apply List.map_congr_left
 intro i _
 unfold fI
 cases xs[i]? <;>rfl
theorem a2X(A:Loc){xs:List Itm}{i:Nat}(h:i<xs.length):(fI A xs i).length=7:=by rw[a8G A h];rfl
theorem a7a(A:Loc){xs:List Itm}{i:Nat}(h:i<xs.length): ∀u∈fI A xs i,u.oneCell'=true:=by rw[a8G A h];exact a2M _ _ rfl
theorem b5J(A B:Loc)(xs ys:List Itm){i:Nat}(h:i<(xs++ys).length):(a2D (fI A xs) xs.length++a2D (fI B ys) ys.length)[i*7]? =some (.int .i64 (xs++ys)[i].id):=by
 have hx:=a2O (f:=fI A xs) (k:=7) (n:=xs.length) fun i h=>a2X A h
 have hy:=a2O (f:=fI B ys) (k:=7) (n:=ys.length) fun i h=>a2X B h
 rw[List.length_append]at h
 rcases Nat.lt_or_ge i xs.length with h'|h'
 ·rw[List.getElem?_append_left (by rw[hx];omega),List.getElem_append_left h']
  have:=a2l (f:=fI A xs) (k:=7) (n:=xs.length) (fun i h=>a2X A h) i 0 h' (by decide)
  rw[Nat.add_zero]at this
  rw[this,a8G A h']
  rfl
 ·rw[List.getElem?_append_right (by rw[hx];omega),List.getElem_append_right h',hx,show i*7-xs.length*7=(i-xs.length)*7 by omega]
  have:=a2l (f:=fI B ys) (k:=7) (n:=ys.length) (fun i h=>a2X B h) (i-xs.length) 0 (by omega) (by decide)
  rw[Nat.add_zero]at this
  rw[this,a8G B (by omega)]
  rfl
set_option maxHeartbeats 16000000 in
set_option maxRecDepth 100000 in
theorem b0I{P:Program}{k29 k31 k41 k43 k45 k66 k97:Nat}{y29 y31 y41 y43 y45 y66 y97:List Value}(L:LayS P k29 k31 k41 k43 k45 k66 k97 y29 y31 y41 y43 y45 y66 y97)(_hk0: ¬k29=0)(hk1:k31=25)(hk:k41=14)(hk3:k43=7)(f7:P.funcs[7]? =some Try.f7)
  (e17: ∀args w,(callFunc 17 args).run P w= .ok (.enter 17 args) w) (e18: ∀args w,(callFunc 18 args).run P w= .ok (.enter 18 args) w) (e19: ∀args w,(callFunc 19 args).run P w= .ok (.enter 19 args) w) (e20: ∀args w,(callFunc 20 args).run P w= .ok (.enter 20 args) w)
  (i3:Inf P 3 1 1000) (i43:Inf P 43 7 1000)
  (A:Lcs) (S:Std) (w:World) (hB:Bo S) {lo hh:Nat} (hhh:hh≤w.heap.size) (hI:StI lo hh w A S)
  (h17: ∀(ia:Option Addr) (ids:List Int) (ic:Nat) (lv:Value) (l:List Int) (W:World) (bs:Nat) (_:w.heap.size≤bs) (_:bs≤W.heap.size) (_:Below w.heap.size w W) (_:ids.length≤40) (_:l.length≤900) (_:W.ownsRow bs 3 1 lv l.length (a0J l))
   (_:a2o lo hh W ia ids∨ ∃n B O,ids= [n]∧ia=some ⟨B,O,none⟩∧B<W.heap.size∧W.cell? ⟨B,O,none⟩=some (.int .i64 n)),
   Calls P 17 #[.agg (stV A S).toArray,lv,.slice ia ids.length ic] W fun e w'=> ∃lv',e= .returned lv'∧w'.ownsRow bs 3 1 lv' (mor S.fi l ids).length (a0J (mor S.fi l ids))∧Below bs W w')
  (h18: ∀(A:Loc) (ls:List (List Int)) (p:Nat) (W:World) (_:LstI lo hh W A ls),Calls P 18 #[.slice A.a ls.length A.c,.int .i64 p] W fun e w'=>e= .returned (.slice (atA A ls p) (atL ls p).length (atC A ls p))∧w'=W)
  (h19: ∀(n:Int) (W:World) (_:Below w.heap.size w W),Calls P 19 #[.agg (stV A S).toArray,.int .i64 n] W fun e w'=>e= .returned (.int .i64 (S.fi n))∧Gr W w')
  (h20: ∀(v:Value) (l:List Int) (n:Int) (W:World) (bs:Nat) (_:l.length≤1000) (_:W.ownsRow bs 3 1 v l.length (a0J l)),Calls P 20 #[v,.int .i64 n] W fun e w'=>e= .returned (.bool (decide (plc n l<l.length)))∧w'=W):
  Calls P 7 #[.agg (stV A S).toArray] w fun e w'=> ∃lv,e= .returned lv∧w'.ownsRow w.heap.size 3 1 lv (ord S).length (a0J (ord S))∧Below w.heap.size w w':=by
 have mixed:=L.mixed;have t3:=L.t3;have a3:=L.a3;have z3:=L.z3;have v3:=L.v3;have qu3:=run_underlying L.t3;have t4:=L.t4;have a4:=L.a4;have z4:=L.z4
 have t22:=L.t22;have a22:=L.a22;have z22:=L.z22;have v22:=L.v22;have qu22:=run_underlying L.t22
 have t23:=L.t23;have a23:=L.a23;have z23:=L.z23;have v23:=L.v23;have qu23:=run_underlying L.t23
 have t24:=L.t24;have a24:=L.a24;have z24:=L.z24;have v24:=L.v24;have qu24:=run_underlying L.t24
 have t25:=L.t25;have a25:=L.a25;have z25:=L.z25;have v25:=L.v25;have qu25:=run_underlying L.t25
 have t26:=L.t26;have a26:=L.a26;have z26:=L.z26;have v26:=L.v26;have qu26:=run_underlying L.t26
 have t27:=L.t27;have a27:=L.a27;have z27:=L.z27;have v27:=L.v27;have qu27:=run_underlying L.t27
 have t39:=L.t39;have a39:=L.a39;have z39:=L.z39;have v39:=L.v39;have qu39:=run_underlying L.t39
 have qu29:=run_underlying L.t29;have a29:=L.a29;have z29:=L.z29;have v29:=L.v29
 have qu31:=run_underlying L.t31;have a31:=L.a31;have z31:=L.z31;have v31:=L.v31
 have qu41:=run_underlying L.t41;have a41:=L.a41;have z41:=L.z41;have v41:=L.v41
 have qu43:=run_underlying L.t43;have a43:=L.a43;have z43:=L.z43;have v43:=L.v43
 have HI:Aside (StI lo hh w A S):=hI
 have HB:Aside (Bo S):=hB
 have H17:Aside _:=h17
 have H18:Aside _:=h18
 have H19:Aside _:=h19
 have H20:Aside _:=h20
 have HK:Hid (k41=14):=hk
 have HK3:Hid (k43=7):=hk3
 have SLl:(stV A S).length=k31:=hk1.symm
 have hn3: ¬k43=0:=by omega
 have hn1: ¬k41=0:=by omega
 have M0:Aside _:=(show Oi w w.heap.size (w.heap.size+1) (stV A S) (.slice none 0 0) (a1f S 0) (w.alloc (.cells (stV A S).toArray 31))from
  ⟨(Below.refl _ _).alloc (Nat.le_refl _) _,a0T _ _,World.ownsRow_nil _ _ _ _,by simp,Nat.le_refl _,Nat.lt_succ_self _⟩)
 have hp5:=hB.pl
 have ho5:=hB.obs
 have hs5:=hB.stack
 have hw5:=hB.waits
 clear hI hB h17 h18 h19 h20 hk hk1 hk3
 go_enter f7,Try.ntmps7
 go_wp2
 generalize hbs:w.heap.size+1=bs at M0
 generalize hb1:w.heap.size=b1 at M0 ⊢
 generalize w.alloc (.cells (stV A S).toArray 31)=W0 at M0 ⊢
 have hbl:w.heap.size≤bs:=by omega
 have HBS:Aside _:=hbl
 have HBB:Hid (w.heap.size=b1):=hb1
 clear hbs hb1 hbl
 go_loopg [3,4] S.pl.length (fun kx s3 s4 wr=> ∃(i:Nat) (v:Value),v=s3∧s4= .int .i64 i∧i≤S.pl.length∧S.pl.length-i≤kx∧Aside (Oi w b1 bs (stV A S) v (a1f S i) wr))
 case atStart=>exact⟨0,_,rfl,rfl,Nat.zero_le _,Nat.le_refl _,M0⟩
 case round=>
  clear M0
  obtain⟨i,v,rfl,rfl,hi,hkx,M1⟩:=hrel
  have wj:IntKind.i64.wrap ((i:Int)+1)=(i:Int)+1:=by rw[IntKind.wrap_i64];omega
  have cp:=a0B (a0A M1.out.c) (j:=0) (v:=.slice A.p.a S.pl.length A.p.c) rfl
  by_cases hlt:i<S.pl.length
  ·have hltz:(i:Int)<(S.pl.length:Int):=by omega
   go_upto_region 5 with fail
   clear cp
   have lA:=a0I P (a0A (M1.out.gr ((Gr.refl _).drew)).c) SLl
   have cj:=a0B (a0A M1.out.c) (j:=2) (v:=.slice A.l.a S.libs.length A.l.c) rfl
   have h18:=H18.out A.l S.libs i wr.drew (HI.out.l.kp ((M1.out.gr ((Gr.refl _).drew)).kp hhh))
   go_still_tail 6,mixed
   still_call h18
   refine wpStill_nil ?_
   change wpList _ _ _ _ _ wr.drew
   have D0:Aside _:=M1.out.gr ((Gr.refl wr).drew)
   clear M1 lA cj h18
   generalize wr.drew=U0 at D0 ⊢
   have hq:=a9l (HI.out.l.kp (D0.out.kp hhh)) i
   have hl0:(a1f S i).length≤900:=by have:=a3c HB.out i (a1f S i);have:=a2C HB.out i;have:=a0a S.fi (atL S.exiles i) (mor S.fi (mor S.fi (mor S.fi (a1f S i) (atL S.libs i)) (atL S.hands i)) (atL S.graves i));have:=a0a S.fi (atL S.graves i) (mor S.fi (mor S.fi (a1f S i) (atL S.libs i)) (atL S.hands i));have:=a0a S.fi (atL S.hands i) (mor S.fi (a1f S i) (atL S.libs i));have:=a0a S.fi (atL S.libs i) (a1f S i);have:=a0g HB.out.libs i;have:=a0g HB.out.hands i;have:=a0g HB.out.graves i;have:=HB.out.pl;omega
   have hn0:(atL S.libs i).length≤40:=Nat.le_trans (a0g HB.out.libs i) (by decide)
   have h17:=H17.out (atA A.l S.libs i) (atL S.libs i) (atC A.l S.libs i) v (a1f S i) U0 bs HBS.out D0.out.hs D0.out.b hn0 hl0 D0.out.o (.inl hq)
   clear hq
   go_upto_region 6 with(go_at_fn 17;refine h17.mono ?_;rintro e V1 ⟨v1,rfl,ho,hb⟩;have N1:Aside _:=D0.out.call hb ho;clear ho hb)
   clear h17 D0 hl0 hn0
   have lA:=a0I P (a0A (N1.out.gr ((Gr.refl _).drew)).c) SLl
   have cj:=a0B (a0A N1.out.c) (j:=3) (v:=.slice A.h.a S.hands.length A.h.c) rfl
   have h18:=H18.out A.h S.hands i V1.drew (HI.out.h.kp ((N1.out.gr ((Gr.refl _).drew)).kp hhh))
   go_still_tail 6,mixed
   still_call h18
   refine wpStill_nil ?_
   change wpList _ _ _ _ _ V1.drew
   have D1:Aside _:=N1.out.gr ((Gr.refl V1).drew)
   clear N1 lA cj h18
   generalize V1.drew=U1 at D1 ⊢
   have hq:=a9l (HI.out.h.kp (D1.out.kp hhh)) i
   have hl1:(mor S.fi (a1f S i) (atL S.libs i)).length≤900:=by have:=a3c HB.out i (a1f S i);have:=a2C HB.out i;have:=a0a S.fi (atL S.exiles i) (mor S.fi (mor S.fi (mor S.fi (a1f S i) (atL S.libs i)) (atL S.hands i)) (atL S.graves i));have:=a0a S.fi (atL S.graves i) (mor S.fi (mor S.fi (a1f S i) (atL S.libs i)) (atL S.hands i));have:=a0a S.fi (atL S.hands i) (mor S.fi (a1f S i) (atL S.libs i));have:=a0a S.fi (atL S.libs i) (a1f S i);have:=a0g HB.out.libs i;have:=a0g HB.out.hands i;have:=a0g HB.out.graves i;have:=HB.out.pl;omega
   have hn1:(atL S.hands i).length≤40:=Nat.le_trans (a0g HB.out.hands i) (by decide)
   have h17:=H17.out (atA A.h S.hands i) (atL S.hands i) (atC A.h S.hands i) v1 (mor S.fi (a1f S i) (atL S.libs i)) U1 bs HBS.out D1.out.hs D1.out.b hn1 hl1 D1.out.o (.inl hq)
   clear hq
   go_upto_region 7 with(go_at_fn 17;refine h17.mono ?_;rintro e V2 ⟨v2,rfl,ho,hb⟩;have N2:Aside _:=D1.out.call hb ho;clear ho hb)
   clear h17 D1 hl1 hn1
   have lA:=a0I P (a0A (N2.out.gr ((Gr.refl _).drew)).c) SLl
   have cj:=a0B (a0A N2.out.c) (j:=4) (v:=.slice A.g.a S.graves.length A.g.c) rfl
   have h18:=H18.out A.g S.graves i V2.drew (HI.out.g.kp ((N2.out.gr ((Gr.refl _).drew)).kp hhh))
   go_still_tail 6,mixed
   still_call h18
   refine wpStill_nil ?_
   change wpList _ _ _ _ _ V2.drew
   have D2:Aside _:=N2.out.gr ((Gr.refl V2).drew)
   clear N2 lA cj h18
   generalize V2.drew=U2 at D2 ⊢
   have hq:=a9l (HI.out.g.kp (D2.out.kp hhh)) i
   have hl2:(mor S.fi (mor S.fi (a1f S i) (atL S.libs i)) (atL S.hands i)).length≤900:=by have:=a3c HB.out i (a1f S i);have:=a2C HB.out i;have:=a0a S.fi (atL S.exiles i) (mor S.fi (mor S.fi (mor S.fi (a1f S i) (atL S.libs i)) (atL S.hands i)) (atL S.graves i));have:=a0a S.fi (atL S.graves i) (mor S.fi (mor S.fi (a1f S i) (atL S.libs i)) (atL S.hands i));have:=a0a S.fi (atL S.hands i) (mor S.fi (a1f S i) (atL S.libs i));have:=a0a S.fi (atL S.libs i) (a1f S i);have:=a0g HB.out.libs i;have:=a0g HB.out.hands i;have:=a0g HB.out.graves i;have:=HB.out.pl;omega
   have hn2:(atL S.graves i).length≤40:=Nat.le_trans (a0g HB.out.graves i) (by decide)
   have h17:=H17.out (atA A.g S.graves i) (atL S.graves i) (atC A.g S.graves i) v2 (mor S.fi (mor S.fi (a1f S i) (atL S.libs i)) (atL S.hands i)) U2 bs HBS.out D2.out.hs D2.out.b hn2 hl2 D2.out.o (.inl hq)
   clear hq
   go_upto_region 8 with(go_at_fn 17;refine h17.mono ?_;rintro e V3 ⟨v3,rfl,ho,hb⟩;have N3:Aside _:=D2.out.call hb ho;clear ho hb)
   clear h17 D2 hl2 hn2
   have lA:=a0I P (a0A (N3.out.gr ((Gr.refl _).drew)).c) SLl
   have cj:=a0B (a0A N3.out.c) (j:=5) (v:=.slice A.x.a S.exiles.length A.x.c) rfl
   have h18:=H18.out A.x S.exiles i V3.drew (HI.out.x.kp ((N3.out.gr ((Gr.refl _).drew)).kp hhh))
   go_still_tail 6,mixed
   still_call h18
   refine wpStill_nil ?_
   change wpList _ _ _ _ _ V3.drew
   have D3:Aside _:=N3.out.gr ((Gr.refl V3).drew)
   clear N3 lA cj h18
   generalize V3.drew=U3 at D3 ⊢
   have hq:=a9l (HI.out.x.kp (D3.out.kp hhh)) i
   have hl3:(mor S.fi (mor S.fi (mor S.fi (a1f S i) (atL S.libs i)) (atL S.hands i)) (atL S.graves i)).length≤900:=by have:=a3c HB.out i (a1f S i);have:=a2C HB.out i;have:=a0a S.fi (atL S.exiles i) (mor S.fi (mor S.fi (mor S.fi (a1f S i) (atL S.libs i)) (atL S.hands i)) (atL S.graves i));have:=a0a S.fi (atL S.graves i) (mor S.fi (mor S.fi (a1f S i) (atL S.libs i)) (atL S.hands i));have:=a0a S.fi (atL S.hands i) (mor S.fi (a1f S i) (atL S.libs i));have:=a0a S.fi (atL S.libs i) (a1f S i);have:=a0g HB.out.libs i;have:=a0g HB.out.hands i;have:=a0g HB.out.graves i;have:=HB.out.pl;omega
   have hn3:(atL S.exiles i).length≤40:=Nat.le_trans (a0g HB.out.exiles i) (by decide)
   have h17:=H17.out (atA A.x S.exiles i) (atL S.exiles i) (atC A.x S.exiles i) v3 (mor S.fi (mor S.fi (mor S.fi (a1f S i) (atL S.libs i)) (atL S.hands i)) (atL S.graves i)) U3 bs HBS.out D3.out.hs D3.out.b hn3 hl3 D3.out.o (.inl hq)
   clear hq
   go_upto_region 4 with(go_at_fn 17;refine h17.mono ?_;rintro e V4 ⟨v4,rfl,ho,hb⟩;have N4:Aside _:=D3.out.call hb ho;clear ho hb)
   clear h17 D3 hl3 hn3
   have N5:Aside (Oi w b1 bs (stV A S) v4 (a1f S (i+1)) V4):=by rw[a6P];exact N4
   clear N4
   go_wp2
   go_roundg (S.pl.length-(i+1))
   case measure=>omega
   case rel=>exact⟨i+1,v4,rfl,by first|rfl|go_num,by omega,Nat.le_refl _,N5⟩
  ·have hltz: ¬(i:Int)<(S.pl.length:Int):=by omega
   obtain rfl:i=S.pl.length:=by omega
   have cf:=a0B (a0A M1.out.c) (j:=6) (v:=.slice A.f.a S.field.length A.f.c) rfl
   have lA:=a0I P (a0A M1.out.c) SLl
   have h17:=H17.out A.f.a S.field A.f.c v (a1f S S.pl.length) wr bs HBS.out M1.out.hs M1.out.b (Nat.le_trans HB.out.field (by decide)) (by have:=a2C HB.out S.pl.length;have:=HB.out.pl;omega) M1.out.o (.inl (RowsI.kp HI.out.f (M1.out.kp hhh)))
   go_upto_block 2 with(go_at_fn 17;refine h17.mono ?_;rintro e W1 ⟨v1,rfl,ho,hb⟩;have M2:Aside (Oi w b1 bs (stV A S) v1 (a6s S (S.stack.take 0)) W1):=M1.out.call hb ho;clear ho hb)
   clear cf lA h17 cp M1
   go_wp2
   go_loopg [3,5] S.stack.length (fun kx s3 s5 wr=> ∃(i:Nat) (v:Value),v=s3∧s5= .int .i64 i∧i≤S.stack.length∧S.stack.length-i≤kx∧Aside (Oi w b1 bs (stV A S) v (a6s S (S.stack.take i)) wr))
   case atStart=>exact⟨0,_,rfl,rfl,Nat.zero_le _,Nat.le_refl _,M2⟩
   case round=>
    clear M2
    obtain⟨i,v,rfl,rfl,hi,hkx,M1⟩:=hrel
    have wj:IntKind.i64.wrap ((i:Int)+1)=(i:Int)+1:=by rw[IntKind.wrap_i64];omega
    have cs:=a0B (a0A M1.out.c) (j:=7) (v:=.slice A.s.a S.stack.length A.s.c) rfl
    by_cases hlt:i<S.stack.length
    ·have hltz:(i:Int)<(S.stack.length:Int):=by omega
     obtain⟨B,O,hB,hc⟩:=HI.out.s.at hlt 3 (.int .i64 S.stack[i].obj) rfl
     have hT:=a8u S (S.stack.take i) S.stack[i]
     rw[←List.take_succ_eq_append_getElem hlt]at hT
     have c3:=hc wr (M1.out.kp hhh)
     rw[←HK3.out]at c3 hc
     generalize S.stack[i].obj=n at c3 hT hc
     rw[hB]at cs
     have HT:Hid _:=hT
     have HBs:Hid _:=hB
     have hlen:(a6s S (S.stack.take i)).length≤900:=by have:=a7q HB.out (S.stack.take i);rw[List.length_take]at this;omega
     clear hT hB
     go_upto_region 13 with fail
     have lA:=a0I P (a0A (M1.out.gr ((Gr.refl _).drew)).c) SLl
     go_still_tail 7,mixed
     change wpList _ _ _ _ _ wr.drew
     have D0:Aside _:=M1.out.gr ((Gr.refl wr).drew)
     clear M1 lA cs c3
     generalize wr.drew=U0 at D0 ⊢
     have h19:=H19.out n U0 D0.out.b
     have hfz:=b7T n S.ids
     have hfl:S.ids.length=S.obs.length:=by unfold Std.ids;rw[List.length_map]
     rw[hfl]at hfz
     have hst:b1k S n=(decide (0≤S.fi n)&&(S.obs[(S.fi n).toNat]!).zone==5):=rfl
     change S.fi n<_ at hfz
     generalize S.fi n=f at h19 hfz hst
     have HST:Hid _:=hst
     clear hst hfl
     go_upto_region 14 with(go_at_fn 19;refine h19.mono ?_;rintro e V0 ⟨rfl,hg⟩;have M2:Aside _:=D0.out.gr hg;clear hg)
     clear h19 D0
     by_cases hf0:0≤f
     ·obtain⟨p,rfl⟩: ∃p:Nat,f=p:=⟨f.toNat,by omega⟩
      have hpl:p<S.obs.length:=by omega
      have hdz:decide ((p:Int)≥0)=true:=decide_eq_true (by omega)
      obtain⟨B2,O2,hB2,hc2⟩:=HI.out.o.at hpl 4 (.int .i64 S.obs[p].zone) rfl
      have c4:=hc2 V0 (M2.out.kp hhh)
      rw[←HK.out]at c4
      have co:=a0B (a0A M2.out.c) (j:=1) (v:=.slice A.o.a S.obs.length A.o.c) rfl
      rw[hB2]at co
      have hz2:b1k S n=(S.obs[p].zone==5):=by
       rw[HST.out,decide_eq_true hf0,Bool.true_and]
       simp[hpl]
      generalize S.obs[p].zone=z at c4 hz2
      have HZ2:Hid _:=hz2
      clear hz2 hB2 hc2
      cases hz:(z==5)with
      |true=>
       have hT2:a6s S (S.stack.take (i+1))=mor S.fi (a6s S (S.stack.take i)) [n]:=by rw[HT.out,if_pos (by rw[HZ2.out,hz])]
       have HT2:Hid _:=hT2
       clear hT2
       go_upto_region 15 with fail
       have OB0:Below bs V0 V0.drew:=a0N (.refl _ _) M2.out.hs ((Gr.refl _).drew)
       have XM:Aside _:=M2
       have C3:Aside _:=hc
       have CK: ∀W,Below bs V0 W→Kp lo hh w W:=fun W h=>M2.out.kp hhh|>.trans ((Kp.below h lo).mono (Nat.le_refl _) (Nat.le_trans hhh HBS.out))
       have CX: ∀W,Below bs V0 W→W.heap[b1]? =some (.cells (stV A S).toArray 31):=fun W h=>(h.block _ M2.out.h2).trans M2.out.c
       have AK:Aside _:=CK
       have AX:Aside _:=CX
       clear CK CX hc M2 c4 co
       refine wp_region_held_drew (S:=fun W=>Below bs V0 W) mixed OB0 (fun hHeld=> ?_)
       refine wtk (i:=0) (v:=.agg (stV A S).toArray) hHeld ?_ ?_
       ·intro W hW
        have lA:=a0I P (a0A (AX.out W hW)) SLl
        clear hW hHeld OB0
        go_simp
       simp only[Act.put,px]
       refine wtk (i:=1) (v:=v) hHeld ?_ ?_
       ·intro W hW
        clear hW hHeld OB0
        go_simp
       simp only[Act.put,px]
       refine wtk (i:=2) (v:=.pointer (some ⟨b1,7,none⟩)) hHeld ?_ ?_
       ·intro W hW
        clear hW hHeld OB0
        go_simp
       simp only[Act.put,px]
       refine wtk (i:=3) (v:=.slice (some ⟨B,O,none⟩) S.stack.length A.s.c) hHeld ?_ ?_
       ·intro W hW
        have cs:=a0B (a0A (AX.out W hW)) (j:=7) (v:=.slice (some ⟨B,O,none⟩) S.stack.length A.s.c) (by rw[←HBs.out];rfl)
        clear hW hHeld OB0
        go_simp
       simp only[Act.put,px]
       refine wtk (i:=4) (v:=.int .i64 i) hHeld ?_ ?_
       ·intro W hW
        clear hW hHeld OB0
        go_simp
       simp only[Act.put,px]
       refine wtk (i:=5) (v:=.pointer (some ⟨B,O+i*k43,none⟩)) hHeld ?_ ?_
       ·intro W hW
        clear hW hHeld OB0
        go_simp
       simp only[Act.put,px]
       refine wtk (i:=6) (v:=.pointer (some ⟨B,O+i*k43+3,none⟩)) hHeld ?_ ?_
       ·intro W hW
        clear hW hHeld OB0
        go_simp
       simp only[Act.put,px]
       refine wtk (i:=7) (v:=.int .i64 n) hHeld ?_ ?_
       ·intro W hW
        have c3:W.cell? ⟨B,O+i*k43+3,none⟩=some (.int .i64 n):=C3.out W (AK.out W hW)
        clear hW hHeld OB0
        go_simp
       simp only[Act.put,px]
       have D1:Aside _:=(XM.out.gr ((Gr.refl V0).drew)).gr ((Gr.refl _).alloc (.cells #[.int .i64 n] 3))
       have cq:=a0B (a0q V0.drew [.int .i64 n] 3) (j:=0) rfl
       have h17:=H17.out (some ⟨V0.drew.heap.size,0,none⟩) [n] 1 v (a6s S (S.stack.take i)) (V0.drew.alloc (.cells #[.int .i64 n] 3)) bs HBS.out D1.out.hs D1.out.b (by simp) hlen D1.out.o (.inr ⟨n,V0.drew.heap.size,0,rfl,rfl,by simp,cq⟩)
       clear cq
       refine wrd 8 fun K hK=> ?_
       go_simp
       refine hK.out _ _ (OB0.alloc XM.out.hs _) (fun hHeld=> ?_)
       clear hK K
       refine wrd 9 fun K hK=> ?_
       go_simp
       refine h17.mono ?_
       rintro e W1 ⟨v1,rfl,ho,hb⟩
       have M3:Aside (Oi w b1 bs (stV A S) v1 (a6s S (S.stack.take (i+1))) W1):=(by rw[HT2.out];exact D1.out.call hb ho)
       refine hK.out _ _ ((OB0.alloc XM.out.hs _).trans hb) (fun hHeld=> ?_)
       clear hK K
       have OB1:Below bs V0 W1:=hHeld
       refine wrd 10 fun K hK=> ?_
       go_simp
       refine hK.out _ _ OB1 (fun hHeld=> ?_)
       clear hK K
       refine wpAnyH_done (by kernel_rfl) ?_ _
       go_wp2
       go_roundg (S.stack.length-(i+1))
       case measure=>omega
       case rel=>exact⟨i+1,v1,rfl,by first|rfl|go_num,by omega,Nat.le_refl _,M3⟩
      |false=>
       have M3:Aside (Oi w b1 bs (stV A S) v (a6s S (S.stack.take (i+1))) V0):=by rw[HT.out,if_neg (by rw[HZ2.out,hz];decide)];exact M2
       clear M2
       go_wp2
       go_roundg (S.stack.length-(i+1))
       case measure=>omega
       case rel=>exact⟨i+1,v,rfl,by first|rfl|go_num,by omega,Nat.le_refl _,M3⟩
     ·have hdz:decide (f≥0)=false:=decide_eq_false hf0
      have M3:Aside (Oi w b1 bs (stV A S) v (a6s S (S.stack.take (i+1))) V0):=by
       rw[HT.out,if_neg (by rw[HST.out,decide_eq_false hf0];simp)]
       exact M2
      clear M2 hf0
      go_wp2
      go_roundg (S.stack.length-(i+1))
      case measure=>omega
      case rel=>exact⟨i+1,v,rfl,by first|rfl|go_num,by omega,Nat.le_refl _,M3⟩
    ·have hltz: ¬(i:Int)<(S.stack.length:Int):=by omega
     obtain rfl:i=S.stack.length:=by omega
     have M4:Aside (Oi w b1 bs (stV A S) v (a8k S (S.obs.take 0)) wr):=by have:=M1.out;rw[List.take_length]at this;exact this
     clear M1
     go_upto_block 4 with fail
     clear cs
     go_wp2
     go_loopg [3,7] S.obs.length (fun kx s3 s7 wr=> ∃(i:Nat) (v:Value),v=s3∧s7= .int .i64 i∧i≤S.obs.length∧S.obs.length-i≤kx∧Aside (Oi w b1 bs (stV A S) v (a8k S (S.obs.take i)) wr))
     case atStart=>exact⟨0,_,rfl,rfl,Nat.zero_le _,Nat.le_refl _,M4⟩
     case round=>
      clear M4
      obtain⟨i,v,rfl,rfl,hi,hkx,M1⟩:=hrel
      have wj:IntKind.i64.wrap ((i:Int)+1)=(i:Int)+1:=by rw[IntKind.wrap_i64];omega
      have co:=a0B (a0A M1.out.c) (j:=1) (v:=.slice A.o.a S.obs.length A.o.c) rfl
      by_cases hlt:i<S.obs.length
      ·have hltz:(i:Int)<(S.obs.length:Int):=by omega
       obtain⟨B,O,hB,hc⟩:=HI.out.o.at hlt 0 (.int .i64 S.obs[i].id) rfl
       have hT:=a8t S (S.obs.take i) S.obs[i]
       rw[←List.take_succ_eq_append_getElem hlt]at hT
       have c3:=hc wr (M1.out.kp hhh)
       rw[←HK.out,Nat.add_zero]at c3 hc
       generalize S.obs[i].id=n at c3 hT hc
       rw[hB]at co
       have HBs:Hid _:=hB
       have HT:Hid _:=hT
       have hlen:(a8k S (S.obs.take i)).length≤900:=by have:=a7p HB.out (S.obs.take i);rw[List.length_take]at this;omega
       clear hT hB
       go_upto_region 19 with fail
       have OB0:Below bs wr wr.drew:=a0N (.refl _ _) M1.out.hs ((Gr.refl _).drew)
       have XM:Aside _:=M1
       have C3:Aside _:=hc
       have CK: ∀W,Below bs wr W→Kp lo hh w W:=fun W h=>M1.out.kp hhh|>.trans ((Kp.below h lo).mono (Nat.le_refl _) (Nat.le_trans hhh HBS.out))
       have CX: ∀W,Below bs wr W→W.heap[b1]? =some (.cells (stV A S).toArray 31):=fun W h=>(h.block _ M1.out.h2).trans M1.out.c
       have AK:Aside _:=CK
       have AX:Aside _:=CX
       clear CK CX hc M1 co c3
       refine wp_region_held_drew (S:=fun W=>Below bs wr W) mixed OB0 (fun hHeld=> ?_)
       refine wtk (i:=0) (v:=.agg (stV A S).toArray) hHeld ?_ ?_
       ·intro W hW
        have lA:=a0I P (a0A (AX.out W hW)) SLl
        clear hW hHeld OB0
        go_simp
       simp only[Act.put,px]
       refine wtk (i:=1) (v:=v) hHeld ?_ ?_
       ·intro W hW
        clear hW hHeld OB0
        go_simp
       simp only[Act.put,px]
       refine wtk (i:=2) (v:=.pointer (some ⟨b1,1,none⟩)) hHeld ?_ ?_
       ·intro W hW
        clear hW hHeld OB0
        go_simp
       simp only[Act.put,px]
       refine wtk (i:=3) (v:=.slice (some ⟨B,O,none⟩) S.obs.length A.o.c) hHeld ?_ ?_
       ·intro W hW
        have cs:=a0B (a0A (AX.out W hW)) (j:=1) (v:=.slice (some ⟨B,O,none⟩) S.obs.length A.o.c) (by rw[←HBs.out];rfl)
        clear hW hHeld OB0
        go_simp
       simp only[Act.put,px]
       refine wtk (i:=4) (v:=.int .i64 i) hHeld ?_ ?_
       ·intro W hW
        clear hW hHeld OB0
        go_simp
       simp only[Act.put,px]
       refine wtk (i:=5) (v:=.pointer (some ⟨B,O+i*k41,none⟩)) hHeld ?_ ?_
       ·intro W hW
        clear hW hHeld OB0
        go_simp
       simp only[Act.put,px]
       refine wtk (i:=6) (v:=.pointer (some ⟨B,O+i*k41,none⟩)) hHeld ?_ ?_
       ·intro W hW
        clear hW hHeld OB0
        go_simp
       simp only[Act.put,px]
       refine wtk (i:=7) (v:=.int .i64 n) hHeld ?_ ?_
       ·intro W hW
        have c3:W.cell? ⟨B,O+i*k41,none⟩=some (.int .i64 n):=C3.out W (AK.out W hW)
        clear hW hHeld OB0
        go_simp
       simp only[Act.put,px]
       have D1:Aside _:=(XM.out.gr ((Gr.refl wr).drew)).gr ((Gr.refl _).alloc (.cells #[.int .i64 n] 3))
       have cq:=a0B (a0q wr.drew [.int .i64 n] 3) (j:=0) rfl
       have h17:=H17.out (some ⟨wr.drew.heap.size,0,none⟩) [n] 1 v (a8k S (S.obs.take i)) (wr.drew.alloc (.cells #[.int .i64 n] 3)) bs HBS.out D1.out.hs D1.out.b (by simp) hlen D1.out.o (.inr ⟨n,wr.drew.heap.size,0,rfl,rfl,by simp,cq⟩)
       clear cq
       refine wrd 8 fun K hK=> ?_
       go_simp
       refine hK.out _ _ (OB0.alloc XM.out.hs _) (fun hHeld=> ?_)
       clear hK K
       refine wrd 9 fun K hK=> ?_
       go_simp
       refine h17.mono ?_
       rintro e W1 ⟨v1,rfl,ho,hb⟩
       have M3:Aside (Oi w b1 bs (stV A S) v1 (a8k S (S.obs.take (i+1))) W1):=(by rw[HT.out];exact D1.out.call hb ho)
       refine hK.out _ _ ((OB0.alloc XM.out.hs _).trans hb) (fun hHeld=> ?_)
       clear hK K
       have OB1:Below bs wr W1:=hHeld
       refine wrd 10 fun K hK=> ?_
       go_simp
       refine hK.out _ _ OB1 (fun hHeld=> ?_)
       clear hK K
       refine wpAnyH_done (by kernel_rfl) ?_ _
       go_wp2
       go_roundg (S.obs.length-(i+1))
       case measure=>omega
       case rel=>exact⟨i+1,v1,rfl,by first|rfl|go_num,by omega,Nat.le_refl _,M3⟩
      ·have hltz: ¬(i:Int)<(S.obs.length:Int):=by omega
       obtain rfl:i=S.obs.length:=by omega
       have M4:Aside (Oi w b1 bs (stV A S) v (a8k S S.obs) wr):=by have:=M1.out;rw[List.take_length]at this;exact this
       clear M1
       go_upto_region 20 with fail
       clear co
       have OB0:Below bs wr wr.drew:=a0N (.refl _ _) M4.out.hs ((Gr.refl _).drew)
       have CX: ∀W,Below bs wr W→W.heap[b1]? =some (.cells (stV A S).toArray 31):=fun W h=>(h.block _ M4.out.h2).trans M4.out.c
       have AX:Aside _:=CX
       clear CX
       refine wp_region_held_drew (S:=fun W=>Below bs wr W) mixed OB0 (fun hHeld=> ?_)
       refine wtk (i:=1) (v:=.pointer (some ⟨b1,7,none⟩)) hHeld ?_ ?_
       ·intro W hW
        clear hW hHeld OB0
        go_simp
       simp only[Act.put,px]
       refine wtk (i:=2) (v:=.slice A.s.a S.stack.length A.s.c) hHeld ?_ ?_
       ·intro W hW
        have cs:=a0B (a0A (AX.out W hW)) (j:=7) (v:=.slice A.s.a S.stack.length A.s.c) rfl
        clear hW hHeld OB0
        go_simp
       simp only[Act.put,px]
       refine wtk (i:=4) (v:=.pointer (some ⟨b1,8,none⟩)) hHeld ?_ ?_
       ·intro W hW
        clear hW hHeld OB0
        go_simp
       simp only[Act.put,px]
       refine wtk (i:=5) (v:=.slice A.w.a S.waits.length A.w.c) hHeld ?_ ?_
       ·intro W hW
        have cs:=a0B (a0A (AX.out W hW)) (j:=8) (v:=.slice A.w.a S.waits.length A.w.c) rfl
        clear hW hHeld OB0
        go_simp
       simp only[Act.put,px]
       refine wrd 0 fun K hK=> ?_
       go_simp
       refine hK.out _ _ (OB0.alloc M4.out.hs _) (fun hHeld=> ?_)
       clear hK K
       have DA:=(M4.out.gr ((Gr.refl wr).drew)).gr ((Gr.refl _).alloc (.cells #[] 43))
       have ol:=World.ownsRow_lit (e:=43) (size:=7) (base:=bs) wr.drew #[] 0 M4.out.hs (by decide) rfl
       obtain⟨v1,w1,hr1,ho1,hg1⟩:=a5p t26 i43 (by decide) ol DA.hs (fI A.s S.stack) S.stack.length (fun i h=>a2X _ h) (fun i h=>a7a _ h) A.s.c (a8H (HI.out.s.kp (DA.kp hhh))) (by unfold maxLen;omega) (by omega)
       have hB1:Below bs (wr.drew.alloc (.cells #[] 43)) w1:=(Below.refl _ _).grown hg1 DA.hs fun k hk=>(ol.lt k hk).1
       have DB:=DA.call hB1 (DA.o.kept hg1 (a0p (by decide) DA.o ol))
       obtain⟨v2,w2,hr2,ho2,hg2⟩:=a5p t26 i43 (by decide) ho1 DB.hs (fI A.w S.waits) S.waits.length (fun i h=>a2X _ h) (fun i h=>a7a _ h) A.w.c (a8H (HI.out.wt.kp (DB.kp hhh))) (by unfold maxLen;omega) (by omega)
       have hB2:Below bs w1 w2:=(Below.refl _ _).grown hg2 DB.hs fun k hk=>(ho1.lt k hk).1
       have DC:=DB.call hB2 (DB.o.kept hg2 (a0p (by decide) DB.o ho1))
       have DC2:Aside _:=DC
       have HO2:Aside _:=ho2
       have HB1:Aside _:=hB1
       have HB2:Aside _:=hB2
       have HD:Aside (bs≤wr.heap.size):=M4.out.hs
       clear DA ol ho1 hg1 hB1 DB ho2 hg2 hB2 DC M4
       refine wrd 3 fun K hK=> ?_
       refine a3a (.tmp 103) (.tmp 105) #[26,26] rfl rfl (.slice (some ⟨wr.drew.heap.size,0,none⟩) 0 0) (.slice A.s.a S.stack.length A.s.c) rfl rfl v1 w1 hr1 ?_
       refine hK.out _ _ ((OB0.alloc HD.out _).trans HB1.out) (fun hHeld=> ?_)
       clear hK K
       refine wrd 6 fun K hK=> ?_
       refine a3a (.tmp 106) (.tmp 108) #[26,26] rfl rfl v1 (.slice A.w.a S.waits.length A.w.c) rfl rfl v2 w2 hr2 ?_
       refine hK.out _ _ (((OB0.alloc HD.out _).trans HB1.out).trans HB2.out) (fun hHeld=> ?_)
       clear hK K
       refine wrd 7 fun K hK=> ?_
       go_simp
       refine hK.out _ _ hHeld (fun hHeld=> ?_)
       clear hK K
       refine wpAnyH_done (by kernel_rfl) ?_ _
       clear hr1 hr2 OB0 hHeld
       have hxi: ∀i (h:i<(S.stack++S.waits).length),(a2D (fI A.s S.stack) S.stack.length++a2D (fI A.w S.waits) S.waits.length)[i*7]? =some (.int .i64 (S.stack++S.waits)[i].id):=fun i h=>b5J _ _ _ _ h
       have hxl:(S.stack++S.waits).length≤24:=by rw[List.length_append];omega
       have hl2:0+S.stack.length+S.waits.length=(S.stack++S.waits).length:=by rw[List.length_append];omega
       have M5:Aside (Oi w b1 bs (stV A S) v (a6O S ((S.stack++S.waits).take 0)) w2∧w2.ownsRow bs 43 7 v2 (S.stack++S.waits).length (a2D (fI A.s S.stack) S.stack.length++a2D (fI A.w S.waits) S.waits.length)):=⟨DC2.out,by have:=HO2.out;rw[List.nil_append,hl2]at this;exact this⟩
       obtain⟨qa,qc,hv2⟩:=a6M M5.out.2
       subst hv2
       generalize hxs:S.stack++S.waits=xs at hxi hxl hl2 M5 ⊢
       generalize a2D (fI A.s S.stack) S.stack.length++a2D (fI A.w S.waits) S.waits.length=X at hxi M5
       have HXI:Aside _:=hxi
       have HXL:Aside _:=hxl
       have HXS:Hid _:=hxs
       clear hxi hl2 hxs DC2 HO2 HB1 HB2 HD AX
       go_wp2
       generalize hiv0:Value.slice qa xs.length qc=iv at M5
       go_loopg [3,9] xs.length (fun kx s3 s9 wr=> ∃(i:Nat) (v:Value),v=s3∧s9= .int .i64 i∧i≤xs.length∧xs.length-i≤kx∧Aside (Oi w b1 bs (stV A S) v (a6O S (xs.take i)) wr∧wr.ownsRow bs 43 7 iv xs.length X))
       case atStart=>exact⟨0,_,rfl,rfl,Nat.zero_le _,Nat.le_refl _,M5⟩
       case round=>
        clear M5
        obtain⟨i,v,rfl,rfl,hi,hkx,MM⟩:=hrel
        have M1:Aside _:=MM.out.1
        have J1:Aside (wr.ownsRow bs 43 7 iv xs.length X):=MM.out.2
        clear MM
        obtain⟨ia,ic,hiv⟩:=a6M J1.out
        have wj:IntKind.i64.wrap ((i:Int)+1)=(i:Int)+1:=by rw[IntKind.wrap_i64];omega
        by_cases hlt:i<xs.length
        ·have hltz:(i:Int)<(xs.length:Int):=by omega
         obtain⟨g,rfl⟩: ∃g,ia=some ⟨g,0,none⟩:=by
          rcases J1.out.2 with⟨_,h0⟩|⟨g,cap,cur,h,_⟩
          ·omega
          ·rw[hiv]at h
           injection h with h _ _
           exact⟨g,h⟩
         subst hiv
         have cell:=fun(W:World) (h:W.ownsRow bs 43 7 (.slice (some ⟨g,0,none⟩) xs.length ic) xs.length X)=>(h.cellAt (i*7) (by omega)).trans (HXI.out i hlt)
         have hT:=a8s S (xs.take i) xs[i]
         rw[←List.take_succ_eq_append_getElem hlt]at hT
         have c3:=cell wr J1.out
         rw[←HK3.out]at c3
         have hlen:(a6O S (xs.take i)).length≤900:=by have:=a7o HB.out (xs.take i);rw[List.length_take]at this;have:=HXL.out;omega
         generalize xs[i].id=n at c3 hT cell
         generalize a6O S (xs.take i)=m at M1 hT hlen
         have CELL:Aside _:=cell
         have HT:Hid _:=hT
         have HLEN:Aside _:=hlen
         clear hT cell hlen
         have h20:=H20.out v m n wr bs (by have:=HLEN.out;omega) M1.out.o
         cases hq:decide (plc n m<m.length)with
         |true=>
          rw[hq]at h20
          have M2:Aside (Oi w b1 bs (stV A S) v (a6O S (xs.take (i+1))) wr∧wr.ownsRow bs 43 7 (.slice (some ⟨g,0,none⟩) xs.length ic) xs.length X):=⟨by rw[HT.out,if_pos (of_decide_eq_true hq)];exact M1.out,J1.out⟩
          clear M1 J1 hq
          go_wp2_with (go_at_fn 20;refine h20.mono ?_;rintro e w2 ⟨rfl,hw⟩;obtain rfl:=hw.symm)
          go_roundg (xs.length-(i+1))
          case measure=>omega
          case rel=>exact⟨i+1,v,rfl,by first|rfl|go_num,by omega,Nat.le_refl _,M2⟩
         |false=>
          rw[hq]at h20
          obtain⟨v',w3,hr,ho3,hg3⟩:=a1Y t25 i3 (by decide) (a0J m) [.int .i64 n] rfl (by simp[Value.oneCell']) M1.out.o M1.out.hs (by have:=HLEN.out;omega)
          have e:m.length+1=(m++ [n]).length:=by simp
          have e2:a0J m++ [.int .i64 n]=a0J (m++ [n]):=by simp[a0J]
          rw[e,e2]at ho3
          have gA:Gr wr (wr.alloc (.cells [Value.int .i64 n].toArray 3)):=(Gr.refl _).alloc _
          have M2:Aside (Oi w b1 bs (stV A S) v' (a6O S (xs.take (i+1))) w3∧w3.ownsRow bs 43 7 (.slice (some ⟨g,0,none⟩) xs.length ic) xs.length X):=⟨by rw[HT.out,if_neg (of_decide_eq_false hq)];exact(M1.out.gr gA).grown hg3 ho3,((J1.out.kept (a0i gA) (by simp[Value.ownBlock])).kept hg3 (a0p (by decide) (J1.out.kept (a0i gA) (by simp[Value.ownBlock])) (M1.out.gr gA).o))⟩
          clear ho3 hg3 e e2 M1 J1 hq gA
          go_wp2_with (first|(go_at_fn 20;refine h20.mono ?_;rintro e w2 ⟨rfl,hw⟩;obtain rfl:=hw.symm)|(at_builtin;refine a0E rfl _ _ #[25,25] rfl v (.slice (some ⟨wr.heap.size,0,none⟩) 1 1) rfl rfl _ w3 hr ?_))
          go_roundg (xs.length-(i+1))
          case measure=>omega
          case rel=>exact⟨i+1,v',rfl,by first|rfl|go_num,by omega,Nat.le_refl _,M2⟩
        ·have hltz: ¬(i:Int)<(xs.length:Int):=by omega
         obtain rfl:i=xs.length:=by omega
         have M2:Aside (Oi w b1 bs (stV A S) v (ord S) wr):=by have:=M1.out;rw[List.take_length]at this;rw[ord,HXS.out];exact this
         clear M1 J1
         subst hiv
         go_wp2
         go_returns
         exact⟨_,rfl,a1V M2.out.o HBS.out,M2.out.b⟩
end Go.Proofs.Ytcblehiddfnafaa.canonSame
namespace Go.Proofs.Ytcblehiddfnafaa.canonSame
open Go.Shelf Go.RowKit Go.Lib Go.Sort
theorem b5q(oa:Option Addr)(l:List Int)(oc:Nat)(n:Int)(W:World)(lo hh:Nat)(hl:l.length≤900)(hh1:hh≤W.heap.size)(h:a2o lo hh W oa l):
  Calls Try.prog 41 #[.slice oa l.length oc,.int .i64 n] W fun e w'=>e= .returned (.int .i64 (nam l n))∧w'=W:=
 b1o l oa oc n W (by omega) (h.rows hh1)
section
variable{P:Program}{k29 k31 k41 k43 k45 k66 k97:Nat}{y29 y31 y41 y43 y45 y66 y97:List Value}
theorem a3H{α:Type}{l:List α}{i:Nat}(h:i<l.length)[Inhabited α]:l[i]! =l[i]:=getElem!_pos l i h
theorem b4Q(L:LayS P k29 k31 k41 k43 k45 k66 k97 y29 y31 y41 y43 y45 y66 y97)(f43:P.funcs[43]? =some Try.f43)(e41: ∀args w,(callFunc 41 args).run P w= .ok (.enter 41 args) w)(i3:Inf P 3 1 1000)
  (h41: ∀(oa:Option Addr) (l:List Int) (oc:Nat) (n:Int) (W:World) (lo hh:Nat) (_:l.length≤900) (_:hh≤W.heap.size) (_:a2o lo hh W oa l),Calls P 41 #[.slice oa l.length oc,.int .i64 n] W fun e w'=>e= .returned (.int .i64 (nam l n))∧w'=W)
  (oa:Option Addr) (o:List Int) (oc:Nat) (ia:Option Addr) (l:List Int) (ic:Nat) (w:World) (lo hh lo' hh':Nat) (ho:o.length≤900) (hn:l.length≤900) (hh1:hh≤w.heap.size) (hh2:hh'≤w.heap.size) (hO:a2o lo hh w oa o) (hI:a2o lo' hh' w ia l):
  Calls P 43 #[.slice oa o.length oc,.slice ia l.length ic] w fun e w'=> ∃lv,e= .returned lv∧w'.ownsRow w.heap.size 3 1 lv l.length (a0J (l.map (nam o)))∧Below w.heap.size w w':=
 b0M L f43 e41 i3 (.slice oa o.length oc) (nam o) ia l ic w hn (fun n W hW=>h41 oa o oc n W lo hh ho (Nat.le_trans hh1 hW.size) (hO.kp ((Kp.below hW lo).mono (Nat.le_refl _) hh1))) (hI.rows hh2)
theorem b1W(L:LayS P k29 k31 k41 k43 2 k66 k97 y29 y31 y41 y43 [.int .i64 0,.int .i64 0] y66 y97)(f45:P.funcs[45]? =some Try.f45)(e41: ∀args w,(callFunc 41 args).run P w= .ok (.enter 41 args) w)(i45:Inf P 45 2 1000)
  (h41: ∀(oa:Option Addr) (l:List Int) (oc:Nat) (n:Int) (W:World) (lo hh:Nat) (_:l.length≤900) (_:hh≤W.heap.size) (_:a2o lo hh W oa l),Calls P 41 #[.slice oa l.length oc,.int .i64 n] W fun e w'=>e= .returned (.int .i64 (nam l n))∧w'=W)
  (oa:Option Addr) (o:List Int) (oc:Nat) (ia:Option Addr) (l:List (Int×Int)) (ic:Nat) (w:World) (lo hh lo' hh':Nat) (ho:o.length≤900) (hn:l.length≤900) (hh1:hh≤w.heap.size) (hh2:hh'≤w.heap.size) (hO:a2o lo hh w oa o) (hI:a9n lo' hh' w ia l):
  Calls P 45 #[.slice oa o.length oc,.slice ia l.length ic] w fun e w'=> ∃lv,e= .returned lv∧w'.ownsRow w.heap.size 45 2 lv l.length (a3F (l.map fun p=>(p.1,nam o p.2)))∧Below w.heap.size w w':=
 a7e L f45 e41 i45 (.slice oa o.length oc) (nam o) ia l ic w hn (fun n W hW=>h41 oa o oc n W lo hh ho (Nat.le_trans hh1 hW.size) (hO.kp ((Kp.below hW lo).mono (Nat.le_refl _) hh1))) (hI.rows hh2)
theorem b1C{α:Type}: ∀T:List (Value×α),(T.flatMap fun p=>[p.1])=T.map (·.1)
 | []=>rfl
 |x::T=>by rw[List.flatMap_cons,b1C T];rfl
theorem Li.nst{w:World}{bs:Nat}{lv:Value}{T:List (Value×List Int)}{W:World}(h:Li w bs lv T W): ∃A:Loc,lv= .slice A.a (T.map (·.2)).length A.c∧LstI bs W.heap.size W A (T.map (·.2)):=by
 refine Nw.nst (w:=w) (e1:=25) (e2:=3) ⟨?_,fun p hp=> ?_⟩ (fun _ _=>rfl) (fun _=>rfl)
 ·rw[b1C]
  exact h.i
 ·have:=h.e p hp
  rw[←a1D]at this
  exact this
theorem b2a(l:List (Int×Int)):(l.flatMap fun p=>[Value.int .i64 p.1,.int .i64 p.2])=a3F l:=rfl
theorem Ti.nst{w:World}{bs:Nat}{lv:Value}{T:List (Value×Itm)}{W:World}(h:Ti w bs lv T W): ∃A:Loc,lv= .slice A.a (T.map (·.2)).length A.c∧ItsI bs W.heap.size W A (T.map (·.2)):=
 Nw.nst (w:=w) (e1:=43) (e2:=45) ⟨h.i,fun p hp=>h.e p hp⟩ (fun _ _=>rfl) (fun _=>rfl)
theorem LstI.lsts{lo hi:Nat}{w:World}{A:Loc}{ls:List (List Int)}(h:LstI lo hi w A ls)(hh:hi≤w.heap.size):Lsts w A.a ls A.ad A.cp:=by
 refine⟨?_,fun i hi'=> ?_⟩
 ·refine Eq.mp (congrArg (Rows w A.a 1) ?_) (h.r.rows hh)
  apply List.map_congr_left
  intro i hi'
  have hi':=List.mem_range.1 hi'
  rw[List.getElem?_eq_getElem hi',a3H hi']
  rfl
 ·rw[a3H hi']
  exact(h.e i _ (List.getElem?_eq_getElem hi')).rows hh
theorem b4V(L:LayS P k29 k31 k41 k43 k45 k66 k97 y29 y31 y41 y43 y45 y66 y97)(f42:P.funcs[42]? =some Try.f42)(e43: ∀args w,(callFunc 43 args).run P w= .ok (.enter 43 args) w)(i25:Inf P 25 1 1000)
  (h43: ∀(oa:Option Addr) (o:List Int) (oc:Nat) (ia:Option Addr) (l:List Int) (ic:Nat) (w:World) (lo hh lo' hh':Nat) (_:o.length≤900) (_:l.length≤900) (_:hh≤w.heap.size) (_:hh'≤w.heap.size) (_:a2o lo hh w oa o) (_:a2o lo' hh' w ia l),
   Calls P 43 #[.slice oa o.length oc,.slice ia l.length ic] w fun e w'=> ∃lv,e= .returned lv∧w'.ownsRow w.heap.size 3 1 lv l.length (a0J (l.map (nam o)))∧Below w.heap.size w w')
  (oa:Option Addr) (o:List Int) (oc:Nat) (A:Loc) (ls:List (List Int)) (w:World) (lo hh lo' hh':Nat) (ho:o.length≤900) (hn:ls.length≤900) (hin: ∀l∈ls,l.length≤900) (hh1:hh≤w.heap.size) (hh2:hh'≤w.heap.size) (hO:a2o lo hh w oa o) (hI:LstI lo' hh' w A ls):
  Calls P 42 #[.slice oa o.length oc,.slice A.a ls.length A.c] w fun e w'=> ∃A':Loc,e= .returned (.slice A'.a ls.length A'.c)∧LstI w.heap.size w'.heap.size w' A' (ls.map (·.map (nam o)))∧Below w.heap.size w w':=by
 refine(b0N L f42 e43 i25 (.slice oa o.length oc) (nam o) A.a ls A.ad A.cp A.c w hn (fun i hi W hW=> ?_) (hI.lsts hh2)).mono ?_
 ·have:=h43 oa o oc (A.ad i) ls[i]! (A.cp i) W lo hh lo' hh' ho (by rw[a3H hi];exact hin _ (List.getElem_mem hi)) (Nat.le_trans hh1 hW.size) (Nat.le_trans hh2 hW.size) (hO.kp ((Kp.below hW lo).mono (Nat.le_refl _) hh1)) (by rw[a3H hi];exact(hI.e i _ (List.getElem?_eq_getElem hi)).kp ((Kp.below hW lo').mono (Nat.le_refl _) hh2))
  exact this
 ·rintro e w' ⟨lv,rfl,T,hT,hL⟩
  obtain⟨A',hA',hN⟩:=hL.nst
  rw[hT]at hA' hN
  rw[List.length_map]at hA'
  exact⟨A',by rw[hA'],hN,hL.i.b⟩
theorem a7t{α β:Type}[Inhabited α](l:List α)(f:α→β):(List.range l.length).map (fun i=>f l[i]!)=l.map f:=by
 apply List.ext_getElem (by simp)
 intro i h1 h2
 simp only[List.length_map]at h2
 simp[h2]
theorem ItsI.its{lo hi:Nat}{w:World}{A:Loc}{xs:List Itm}(h:ItsI lo hi w A xs)(hh:hi≤w.heap.size):Its w A.a xs.length (fun i=>xs[i]!) A.ad A.cp:=by
 refine⟨?_,fun i hi'=> ?_⟩
 ·refine Eq.mp (congrArg (Rows w A.a 7) ?_) (h.r.rows hh)
  apply List.map_congr_left
  intro i hi'
  have hi':=List.mem_range.1 hi'
  rw[List.getElem?_eq_getElem hi',a3H hi']
 ·show Prs w (A.ad i) xs[i]!.ts
  rw[a3H hi']
  exact(h.e i _ (List.getElem?_eq_getElem hi')).rows hh
theorem b4Y(L:LayS P k29 k31 k41 k43 k45 k66 k97 y29 y31 y41 y43 y45 y66 y97)(hk:k43=7)(hy3:y43.length=k43)(f44:P.funcs[44]? =some Try.f44)(e41: ∀args w,(callFunc 41 args).run P w= .ok (.enter 41 args) w)(e45: ∀args w,(callFunc 45 args).run P w= .ok (.enter 45 args) w)(i43:Inf P 43 7 1000)
  (h41: ∀(oa:Option Addr) (l:List Int) (oc:Nat) (n:Int) (W:World) (lo hh:Nat) (_:l.length≤900) (_:hh≤W.heap.size) (_:a2o lo hh W oa l),Calls P 41 #[.slice oa l.length oc,.int .i64 n] W fun e w'=>e= .returned (.int .i64 (nam l n))∧w'=W)
  (h45: ∀(oa:Option Addr) (o:List Int) (oc:Nat) (ia:Option Addr) (l:List (Int×Int)) (ic:Nat) (w:World) (lo hh lo' hh':Nat) (_:o.length≤900) (_:l.length≤900) (_:hh≤w.heap.size) (_:hh'≤w.heap.size) (_:a2o lo hh w oa o) (_:a9n lo' hh' w ia l),
   Calls P 45 #[.slice oa o.length oc,.slice ia l.length ic] w fun e w'=> ∃lv,e= .returned lv∧w'.ownsRow w.heap.size 45 2 lv l.length (a3F (l.map fun p=>(p.1,nam o p.2)))∧Below w.heap.size w w')
  (oa:Option Addr) (o:List Int) (oc:Nat) (A:Loc) (xs:List Itm) (w:World) (lo hh lo' hh':Nat) (ho:o.length≤900) (hn:xs.length≤900) (hin: ∀x∈xs,x.ts.length≤900) (hh1:hh≤w.heap.size) (hh2:hh'≤w.heap.size) (hO:a2o lo hh w oa o) (hI:ItsI lo' hh' w A xs):
  Calls P 44 #[.slice oa o.length oc,.slice A.a xs.length A.c] w fun e w'=> ∃A':Loc,e= .returned (.slice A'.a xs.length A'.c)∧ItsI w.heap.size w'.heap.size w' A' (xs.map (nmI (nam o)))∧Below w.heap.size w w':=by
 refine(b0P L hk hy3 f44 e41 e45 i43 (.slice oa o.length oc) (nam o) A.a xs.length (fun i=>xs[i]!) A.ad A.cp A.c w hn (fun n W hW=>h41 oa o oc n W lo hh ho (Nat.le_trans hh1 hW.size) (hO.kp ((Kp.below hW lo).mono (Nat.le_refl _) hh1))) (fun i hi W hW=> ?_) (hI.its hh2)).mono ?_
 ·have:=h45 oa o oc (A.ad i) xs[i]!.ts (A.cp i) W lo hh lo' hh' ho (by rw[a3H hi];exact hin _ (List.getElem_mem hi)) (Nat.le_trans hh1 hW.size) (Nat.le_trans hh2 hW.size) (hO.kp ((Kp.below hW lo).mono (Nat.le_refl _) hh1)) (by rw[a3H hi];exact(hI.e i _ (List.getElem?_eq_getElem hi)).kp ((Kp.below hW lo').mono (Nat.le_refl _) hh2))
  exact this
 ·rintro e w' ⟨lv,rfl,T,hT,hL⟩
  rw[a7t xs (nmI (nam o))]at hT
  obtain⟨A',hA',hN⟩:=hL.nst
  rw[hT]at hA' hN
  rw[List.length_map]at hA'
  exact⟨A',by rw[hA'],hN,hL.i.b⟩
end
theorem a9P{α:Type}{f:α→List Value}{k:Nat}(hf: ∀x,(f x).length=k): ∀(l:List α) (n:Nat),(l.flatMap f).take (n*k)=(l.take n).flatMap f
 | [],n=>by simp
 |x::l,0=>by simp
 |x::l,n+1=>by
  rw[List.flatMap_cons,List.take_succ_cons,List.flatMap_cons,List.take_append,hf,Nat.succ_mul,Nat.add_sub_cancel,a9P hf l n,List.take_of_length_le (by rw[hf];omega)]
theorem a9Q{α:Type}{f:α→List Value}{k:Nat}(hf: ∀x,(f x).length=k): ∀(l:List α) (n:Nat),(l.flatMap f).drop (n*k)=(l.drop n).flatMap f
 | [],n=>by simp
 |x::l,0=>by simp
 |x::l,n+1=>by
  rw[List.flatMap_cons,List.drop_succ_cons,List.drop_append,hf,Nat.succ_mul,Nat.add_sub_cancel,a9Q hf l n,List.drop_of_length_le (by rw[hf];omega),List.nil_append]
theorem a7b{P:Program}{t e k b:Nat}(ht:P.underlying t=some (.slice e))(hi:Inf P e k b)(hk:0<k){α:Type}{f:α→List Value}(hf: ∀x,(f x).length=k){W:World}{v:Value}{base:Nat}(X M:List α)(h1: ∀x∈M,∀u∈f x,u.oneCell'=true)(ho:W.ownsRow base e k v X.length (X.flatMap f))(hb:base≤W.heap.size)(a:Option Addr)(n c:Nat)(hn:n=M.length)(ha:a=none→M= [])
  (hc: ∀ad,a=some ad→ ∀j u,(M.flatMap f)[j]? =some u→W.cell? (ad.add j)=some u) (hl:(X++M).length≤maxLen) (hby:(X++M).length*b≤140737488355328):
  ∃v' w',(Builtin.append_ #[t,t] t #[v,.slice a n c]).run P W= .ok v' w'∧w'.ownsRow base e k v' (X++M).length ((X++M).flatMap f)∧W.grownBy w' v.ownBlock:=by
 obtain⟨i,z,i1,i2,i3,i4,i5⟩:=hi
 subst hn
 rw[List.length_append]at hl hby
 obtain⟨v',w',a1,a2,a3⟩:=a2J (P:=P) (ty:=t) (t:=t) (tx:=t) ht ht i1 i2 (by rw[i4];exact i3) (by rw[i4];exact hk) (by rw[i4];exact ho) a M.length c (M.flatMap f) (by rw[a1W hf,i4]) (fun h=>by rw[ha h];rfl) hc (fun u hu=>by
  obtain⟨x,hx,hu⟩:=List.mem_flatMap.1 hu
  exact h1 x hx u hu) hl (Nat.le_trans (Nat.mul_le_mul_left _ i5) hby) hb
 rw[i4,←List.flatMap_append,←List.length_append]at a2
 exact⟨v',w',a1,a2,a3⟩
theorem b7l{α:Type}{f:α→List Value}{k:Nat}(hf: ∀x,(f x).length=k){W:World}{base e n c g:Nat}{R:List α}(h:W.ownsRow base e k (.slice (some ⟨g,0,none⟩) n c) R.length (R.flatMap f))(m:Nat): ∀j u,((R.take m).flatMap f)[j]? =some u→W.cell? ((⟨g,0,none⟩:Addr).add j)=some u:=fun j u hu=>by
 refine h.cells rfl j u ?_
 rw[←a9P hf,List.getElem?_take]at hu
 split at hu
 ·exact hu
 ·cases hu
theorem b7m{α:Type}{f:α→List Value}{k:Nat}(hf: ∀x,(f x).length=k){W:World}{base e n c g:Nat}{R:List α}(h:W.ownsRow base e k (.slice (some ⟨g,0,none⟩) n c) R.length (R.flatMap f))(m:Nat): ∀j u,((R.drop m).flatMap f)[j]? =some u→W.cell? ((⟨g,m*k,none⟩:Addr).add j)=some u:=fun j u hu=>by
 rw[←a9Q hf,List.getElem?_drop]at hu
 have:=h.cells rfl (m*k+j) u hu
 rw[Addr.add_lit,Nat.zero_add]at this
 rw[Addr.add_lit]
 exact this
end Go.Proofs.Ytcblehiddfnafaa.canonSame
