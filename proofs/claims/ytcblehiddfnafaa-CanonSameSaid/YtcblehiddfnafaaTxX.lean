/-
  Chapter 28: the program's Normal, walked.
-/
import Derived.Test.YtcblehiddfnafaaTxW
namespace Go.Proofs.Ytcblehiddfnafaa.canonSame
open Go.Shelf Go.RowKit Go.Lib Go.Sort
theorem b5r(l:List Int)(hl:l.length≤900)(n:Int): -5000≤nam l n∧nam l n≤5000:=by
 unfold nam
 split
 ·have:plc n l≤l.length:=List.findIdx_le_length
  omega
 ·split<;>omega
theorem a4x{α:Type}{T:List (Value×α)}{xs:List α}(h:T.map (·.2)=xs){Q:α→Prop}(hq: ∀x∈xs,Q x): ∀p∈T,Q p.2:=fun p hp=>hq _ (by rw[←h];exact List.mem_map_of_mem hp)
theorem a4I{α:Type}{T:List (Value×α)}{xs:List α}(h:T.map (·.2)=xs)(f:α→α):(T.map fun p=>(p.1,f p.2)).map (·.2)=xs.map f:=by
 rw[←h,List.map_map,List.map_map]
 rfl
set_option maxHeartbeats 16000000 in
set_option maxRecDepth 100000 in
theorem a7m{P:Program}{k29 k31 k41 k43 k45 k66 k97:Nat}{y29 y31 y41 y43 y45 y66 y97:List Value}(L:LayS P k29 k31 k41 k43 k45 k66 k97 y29 y31 y41 y43 y45 y66 y97)(hk0: ¬k29=0)(hk1:k31=25)(hy1:y31.length=k31)(hk:k41=14)(f10:P.funcs[10]? =some Try.f10)
  (_a34: ∀w,(isAgg 34).run P w= .ok false w) (z34: ∀w,(Go.sizeOf 34).run P w= .ok 1 w)
  (t54:P.underlying 54=some (.struct #[{name:= "names",type:=34,offset:=0,embedded:=false,tag:= "",pkgPath:= "trefoil/canon",byteOffset:=0}]))
  (_a54: ∀w,(isAgg 54).run P w= .ok true w) (_z54: ∀w,(Go.sizeOf 54).run P w= .ok 1 w) (v54: ∀w,(zeroValue 54).run P w= .ok (.agg #[.map none]) w)
  (t60:P.underlying 60=some (.slice 24))
  (e8: ∀args w,(callFunc 8 args).run P w= .ok (.enter 8 args) w) (e33: ∀args w,(callFunc 33 args).run P w= .ok (.enter 33 args) w) (e34: ∀args w,(callFunc 34 args).run P w= .ok (.enter 34 args) w) (e35: ∀args w,(callFunc 35 args).run P w= .ok (.enter 35 args) w) (e37: ∀args w,(callFunc 37 args).run P w= .ok (.enter 37 args) w) (e38: ∀args w,(callFunc 38 args).run P w= .ok (.enter 38 args) w) (e39: ∀args w,(callFunc 39 args).run P w= .ok (.enter 39 args) w)
  (A:Lcs) (S:Std) (w:World) (hB:Bd S) (hol:(ord S).length≤900)
  (h8: ∀W,Below w.heap.size w W→Calls P 8 #[.agg (stV A S).toArray] W fun e w'=> ∃b,e= .returned (.map (some b))∧Aside (W.heap.size≤b∧MapF w' b (ord S).length (nmO (ord S))∧Below W.heap.size W w'))
  (h33: ∀W,Below w.heap.size w W→Calls P 33 #[.agg (stV A S).toArray] W fun e w'=> ∃O,e= .returned (.agg (ovV O S).toArray)∧Aside (O.st S=S∧ ∃N,Asc N∧W.heap.size≤N 0∧N 10≤w'.heap.size∧OwI N O w'∧Below W.heap.size W w'))
  (h34: ∀(bn bm:Nat) (k:Int) (W:World),Nmr W bn bm (ord S).length (nmO (ord S))→Calls P 34 #[.pointer (some ⟨bn,0,none⟩),.int .i64 k] W fun e w'=>e= .returned (.int .i64 (nam (ord S) k))∧w'=W)
  (h35: ∀(lo hi c:Nat) (a:Option Addr) (T:List (Value×Obd)) (rv:Value) (W:World),ObP lo hi (.slice a T.length c) T W→(∀p∈T,-5000≤p.2.id∧p.2.id≤5000)→T.length≤900→Calls P 35 #[.slice a T.length c,.func (.func 36) #[rv] #[]] W fun e W'=>e= .returned (.tuple #[])∧Aside (∃T',T'.length=T.length∧T'.map (·.2)=(T.map (·.2)).foldl a9J []∧ObP lo hi (.slice a T.length c) T' W'∧Chg lo hi W W'))
  (h37: ∀(bn bm lo hi:Nat) (lv v:Value) (l:List Int) (Ta Tb:List (Value×List Int)) (W:World),Nmr W bn bm (ord S).length (nmO (ord S))→bn<lo→bm<lo→LsP lo hi lv (Ta++(v,l)::Tb) W→l.length≤900→Calls P 37 #[.pointer (some ⟨bn,0,none⟩),v] W fun e W'=>e= .returned (.tuple #[])∧Aside (LsP lo hi lv (Ta++(v,l.map (nam (ord S)))::Tb) W'∧Chg lo hi W W'))
  (h37f: ∀(bn bm lo hi:Nat) (v:Value) (l:List Int) (W:World),Nmr W bn bm (ord S).length (nmO (ord S))→bn<lo→bm<lo→Rw lo hi 3 1 v l.length (l.flatMap fun n=>[.int .i64 n]) W→l.length≤900→Calls P 37 #[.pointer (some ⟨bn,0,none⟩),v] W fun e W'=>e= .returned (.tuple #[])∧Aside (Rw lo hi 3 1 v (l.map (nam (ord S))).length ((l.map (nam (ord S))).flatMap fun n=>[.int .i64 n]) W'∧Chg lo hi W W'))
  (h38: ∀(bn bm lo hi:Nat) (v:Value) (T:List (Value×Itm)) (W:World),Nmr W bn bm (ord S).length (nmO (ord S))→bn<lo→bm<lo→ItP lo hi v T W→T.length≤900→(∀p∈T,p.2.ts.length≤900)→Calls P 38 #[.pointer (some ⟨bn,0,none⟩),v] W fun e W'=>e= .returned (.tuple #[])∧Aside (ItP lo hi v (T.map fun p=>(p.1,nmI (nam (ord S)) p.2)) W'∧Chg lo hi W W'))
  (h39: ∀(bn bm lo hi:Nat) (v:Value) (l:List (Int×Int)) (W:World),Nmr W bn bm (ord S).length (nmO (ord S))→bn<lo→bm<lo→Rw lo hi 45 2 v l.length (l.flatMap fun p=>[.int .i64 p.1,.int .i64 p.2]) W→l.length≤900→Calls P 39 #[.pointer (some ⟨bn,0,none⟩),v] W fun e W'=>e= .returned (.tuple #[])∧Aside (Rw lo hi 45 2 v (l.map fun p=>(p.1,nam (ord S) p.2)).length ((l.map fun p=>(p.1,nam (ord S) p.2)).flatMap fun p=>[.int .i64 p.1,.int .i64 p.2]) W'∧Chg lo hi W W')):
  Calls P 10 #[.agg (stV A S).toArray] w fun e w'=> ∃A',e= .returned (.agg (stV A' (a6t (nam (ord S)) S)).toArray)∧StI w.heap.size w'.heap.size w' A' (a6t (nam (ord S)) S)∧Below w.heap.size w w':=by
 have mixed:=L.mixed;have t3:=L.t3;have a3:=L.a3;have z3:=L.z3;have v3:=L.v3;have qu3:=run_underlying L.t3;have t4:=L.t4;have a4:=L.a4;have z4:=L.z4
 have t22:=L.t22;have a22:=L.a22;have z22:=L.z22;have v22:=L.v22;have qu22:=run_underlying L.t22
 have t23:=L.t23;have a23:=L.a23;have z23:=L.z23;have v23:=L.v23;have qu23:=run_underlying L.t23
 have t24:=L.t24;have a24:=L.a24;have z24:=L.z24;have v24:=L.v24;have qu24:=run_underlying L.t24
 have t25:=L.t25;have a25:=L.a25;have z25:=L.z25;have v25:=L.v25;have qu25:=run_underlying L.t25
 have t26:=L.t26;have a26:=L.a26;have z26:=L.z26;have v26:=L.v26;have qu26:=run_underlying L.t26
 have t27:=L.t27;have a27:=L.a27;have z27:=L.z27;have v27:=L.v27;have qu27:=run_underlying L.t27
 have qu29:=run_underlying L.t29;have a29:=L.a29;have z29:=L.z29;have v29:=L.v29
 have qu31:=run_underlying L.t31;have a31:=L.a31;have z31:=L.z31;have v31:=L.v31
 have qu41:=run_underlying L.t41;have a41:=L.a41;have z41:=L.z41;have v41:=L.v41
 have qu54:=run_underlying t54
 have qu60:=run_underlying t60
 have H8:Aside _:=h8
 have H33:Aside _:=h33
 have H34:Aside _:=h34
 have H35:Aside _:=h35
 have H37:Aside _:=h37
 have H37F:Aside _:=h37f
 have H38:Aside _:=h38
 have H39:Aside _:=h39
 have HB:Aside (Bd S):=hB
 have HOL:Aside _:=hol
 have HK1:Hid (k31=25):=hk1
 have HK:Hid (k41=14):=hk
 have hy8:25=y31.length:=by rw[hy1,hk1]
 have HY1:Hid (25=y31.length):=hy8
 have hn1: ¬k31=0:=by omega
 have hn4: ¬k41=0:=by omega
 obtain⟨g0,bx1,bx2⟩:=a0W w (stV A S) y31 31 31
 have G0:Aside (Gr w ((w.alloc (.cells (stV A S).toArray 31)).alloc (.cells y31.toArray 31))):=g0
 have BX1:Aside _:=bx1
 have BX2:Aside _:=bx2
 have hs0:((w.alloc (.cells (stV A S).toArray 31)).alloc (.cells y31.toArray 31)).heap.size=w.heap.size+2:=by simp
 have HS0:Aside _:=hs0
 have SLl:(stV A S).length=k31:=hk1.symm
 have lA:=a0I P (a0A bx1) SLl
 clear h8 h33 h34 h35 h37 h37f h38 h39 hB hol hk1 hy1 hk hy8 g0 bx1 bx2 hs0
 go_enter f10,Try.ntmps10
 go_upto_region 1 with fail
 generalize (w.alloc (.cells (stV A S).toArray 31)).alloc (.cells y31.toArray 31)=W0 at G0 BX1 BX2 HS0 lA ⊢
 have HW0:Aside (Below w.heap.size w W0):=a0N (.refl _ _) (Nat.le_refl _) G0.out
 have hc:=H8.out W0 HW0.out
 go_upto_region 2 with(go_at_fn 8;refine hc.mono ?_;rintro e V0 ⟨bm,rfl,R0⟩)
 clear hc lA
 have GA:Aside (Gr V0 (V0.alloc (.cells #[.map (some bm)] 54))):=(Gr.refl _).alloc _
 have BN:Aside ((V0.alloc (.cells #[.map (some bm)] 54)).heap[V0.heap.size]? =some (.cells #[.map (some bm)] 54)):=a0T _ _
 have HV0:Aside (Below w.heap.size w (V0.alloc (.cells #[.map (some bm)] 54))):=a0N (HW0.out.trans (R0.out.2.2.mono HW0.out.size)) (HW0.out.trans (R0.out.2.2.mono HW0.out.size)).size GA.out
 have BX1a:Aside _:=a0M ((R0.out.2.2.block _ (a0L BX1.out)).trans BX1.out) GA.out
 have BX2a:Aside _:=a0M ((R0.out.2.2.block _ (a0L BX2.out)).trans BX2.out) GA.out
 have MA:Aside (MapF (V0.alloc (.cells #[.map (some bm)] 54)) bm (ord S).length (nmO (ord S))):=R0.out.2.1.gr GA.out
 have NB:Aside (w.heap.size+1<V0.heap.size∧w.heap.size+1<bm∧bm<V0.heap.size):=⟨by have:=R0.out.2.2.size;have:=HS0.out;omega,by have:=R0.out.1;have:=HS0.out;omega,R0.out.2.1.lt⟩
 have SZ1:Aside ((V0.alloc (.cells #[.map (some bm)] 54)).heap.size=V0.heap.size+1):=World.size_alloc _ _
 clear R0 BX1 BX2 G0 GA HW0 HS0
 generalize V0.alloc (.cells #[.map (some bm)] 54)=V1 at BN HV0 BX1a BX2a MA SZ1 ⊢
 generalize V0.heap.size=bn at BN NB SZ1 ⊢
 have lA:=a0I P (a0A BX1a.out) SLl
 have hc:=H33.out V1 HV0.out
 go_upto_region 3 with(go_at_fn 33;refine hc.mono ?_;rintro e V2 ⟨O,rfl,R1⟩;obtain⟨hOS,N,hA,hN0,hN10,hO,hBel⟩:=R1.out;have NV0:Aside (Nv w w.heap.size (w.heap.size+1) bn bm (ovV O S) y31 (ord S) N O (V2.setCells w.heap.size 0 (ovV O S))):=Nv.start HV0.out BX1a.out BX2a.out BN.out MA.out NB.out SZ1.out hBel hA hN0 hN10 hO;have OVl:(ovV O S).length=k31:=HK1.out.symm;have OV1:=b5E hO hA S;have sA:=a0P P (a0A ((hBel.block _ (a0L BX1a.out)).trans BX1a.out)) (ovV O S) rfl OV1;have HOS:Hid (O.st S=S):=hOS;clear hOS hA hN0 hN10 hO hBel R1 OV1)
 clear hc lA sA BX1a BX2a HV0 MA BN NB SZ1
 generalize V2.setCells w.heap.size 0 (ovV O S)=W3 at NV0 ⊢
 generalize hb1:w.heap.size=b1 at NV0 ⊢
 generalize hb2:b1+1=b2 at NV0 ⊢
 have HB1:Aside (w.heap.size=b1):=hb1
 clear hb1 hb2 OVl
 obtain⟨p0,o0,l0,h0,g0,x0,f0,s0,q0,t0,pl,To,Tl,Th,Tg,Tx,fd,Ts,Tw,ts⟩:=O
 obtain⟨ap,cp,ep⟩:=NV0.out.o.p.sl
 obtain⟨ao,co,eo⟩:=NV0.out.o.o.r.sl
 obtain⟨al,cl,el⟩:=NV0.out.o.l.q.r.sl
 obtain⟨ah,ch,eh⟩:=NV0.out.o.h.q.r.sl
 obtain⟨ag,cg,eg⟩:=NV0.out.o.g.q.r.sl
 obtain⟨ax,cx,ex⟩:=NV0.out.o.x.q.r.sl
 obtain⟨af,cf,ef⟩:=NV0.out.o.f.sl
 obtain⟨as',cs,es⟩:=NV0.out.o.s.q.r.sl
 obtain⟨aw,cw,ew⟩:=NV0.out.o.w.q.r.sl
 obtain⟨at',ct,et⟩:=NV0.out.o.t.sl
 simp only at ep eo el eh eg ex ef es ew et
 subst ep eo el eh eg ex ef es ew et
 have hTo:To.map (·.2)=S.obs:=congrArg Std.obs HOS.out
 have hTl:Tl.map (·.2)=S.libs:=congrArg Std.libs HOS.out
 have hTh:Th.map (·.2)=S.hands:=congrArg Std.hands HOS.out
 have hTg:Tg.map (·.2)=S.graves:=congrArg Std.graves HOS.out
 have hTx:Tx.map (·.2)=S.exiles:=congrArg Std.exiles HOS.out
 have hTs:Ts.map (·.2)=S.stack:=congrArg Std.stack HOS.out
 have hTw:Tw.map (·.2)=S.waits:=congrArg Std.waits HOS.out
 have hfd:fd=S.field:=congrArg Std.field HOS.out
 have hpl:pl=S.pl:=congrArg Std.pl HOS.out
 have hts:ts=S.cast.ts:=congrArg (fun s:Std=>s.cast.ts) HOS.out
 have nTo:To.length≤900:=by have:=HB.out.obs;rw[←hTo,List.length_map]at this;exact this
 have HTo:Hid _:=hTo;have HTl:Hid _:=hTl;have HTh:Hid _:=hTh;have HTg:Hid _:=hTg;have HTx:Hid _:=hTx;have HTs:Hid _:=hTs;have HTw:Hid _:=hTw;have Hfd:Hid _:=hfd;have Hts:Hid _:=hts;have Hpl:Hid _:=hpl
 clear hTo hTl hTh hTg hTx hTs hTw hfd hts hpl
 generalize hVS:ovV ⟨.slice ap pl.length cp,.slice ao To.length co,.slice al Tl.length cl,.slice ah Th.length ch,.slice ag Tg.length cg,.slice ax Tx.length cx,.slice af fd.length cf,.slice as' Ts.length cs,.slice aw Tw.length cw,.slice at' ts.length ct,pl,To,Tl,Th,Tg,Tx,fd,Ts,Tw,ts⟩ S=VS at NV0 ⊢
 have CO:Aside (∀W:World,W.heap[b1]? =some (.cells VS.toArray 31)→W.cell? ⟨b1,1,none⟩=some (.slice ao To.length co)):=fun W h=>a0B (a0A h) (j:=1) (v:=.slice ao To.length co) (by rw[←hVS];rfl)
 have CL:Aside (∀W:World,W.heap[b1]? =some (.cells VS.toArray 31)→W.cell? ⟨b1,2,none⟩=some (.slice al Tl.length cl)):=fun W h=>a0B (a0A h) (j:=2) (v:=.slice al Tl.length cl) (by rw[←hVS];rfl)
 have CH:Aside (∀W:World,W.heap[b1]? =some (.cells VS.toArray 31)→W.cell? ⟨b1,3,none⟩=some (.slice ah Th.length ch)):=fun W h=>a0B (a0A h) (j:=3) (v:=.slice ah Th.length ch) (by rw[←hVS];rfl)
 have CG:Aside (∀W:World,W.heap[b1]? =some (.cells VS.toArray 31)→W.cell? ⟨b1,4,none⟩=some (.slice ag Tg.length cg)):=fun W h=>a0B (a0A h) (j:=4) (v:=.slice ag Tg.length cg) (by rw[←hVS];rfl)
 have CX:Aside (∀W:World,W.heap[b1]? =some (.cells VS.toArray 31)→W.cell? ⟨b1,5,none⟩=some (.slice ax Tx.length cx)):=fun W h=>a0B (a0A h) (j:=5) (v:=.slice ax Tx.length cx) (by rw[←hVS];rfl)
 have CF:Aside (∀W:World,W.heap[b1]? =some (.cells VS.toArray 31)→W.cell? ⟨b1,6,none⟩=some (.slice af fd.length cf)):=fun W h=>a0B (a0A h) (j:=6) (v:=.slice af fd.length cf) (by rw[←hVS];rfl)
 have CS:Aside (∀W:World,W.heap[b1]? =some (.cells VS.toArray 31)→W.cell? ⟨b1,7,none⟩=some (.slice as' Ts.length cs)):=fun W h=>a0B (a0A h) (j:=7) (v:=.slice as' Ts.length cs) (by rw[←hVS];rfl)
 have CW:Aside (∀W:World,W.heap[b1]? =some (.cells VS.toArray 31)→W.cell? ⟨b1,8,none⟩=some (.slice aw Tw.length cw)):=fun W h=>a0B (a0A h) (j:=8) (v:=.slice aw Tw.length cw) (by rw[←hVS];rfl)
 have CT:Aside (∀W:World,W.heap[b1]? =some (.cells VS.toArray 31)→W.cell? ⟨b1,21,none⟩=some (.slice at' ts.length ct)):=fun W h=>a0B (a0A h) (j:=21) (v:=.slice at' ts.length ct) (by rw[←hVS];rfl)
 have CC:Aside (∀W:World,W.heap[b1]? =some (.cells VS.toArray 31)→W.cell? ⟨b1,19,none⟩=some (.int .i64 S.cast.obj)):=fun W h=>a0B (a0A h) (j:=19) (v:=.int .i64 S.cast.obj) (by rw[←hVS];rfl)
 have CN:Aside (∀W:World,W.heap[b1]? =some (.cells VS.toArray 31)→W.cell? ⟨b1,15,none⟩=some (.int .i64 S.next)):=fun W h=>a0B (a0A h) (j:=15) (v:=.int .i64 S.next) (by rw[←hVS];rfl)
 have HVS:Hid _:=hVS
 clear hVS
 have c1:=CO.out _ NV0.out.c1
 have NV1:Aside (Nv w b1 b2 bn bm VS y31 (ord S) N ⟨.slice ap pl.length cp,.slice ao To.length co,.slice al Tl.length cl,.slice ah Th.length ch,.slice ag Tg.length cg,.slice ax Tx.length cx,.slice af fd.length cf,.slice as' Ts.length cs,.slice aw Tw.length cw,.slice at' ts.length ct,pl,((To.take 0).map (fun p:Value×Obd=>(p.1,rnO (nam (ord S)) p.2))++To.drop 0),Tl,Th,Tg,Tx,fd,Ts,Tw,ts⟩ W3):=NV0.out
 clear NV0
 go_upto_block 0 with fail
 rename_i hKK
 have HKK:Aside _:=hKK
 clear hKK
 go_wp2
 go_loopg [18] To.length (fun kx q wr=> ∃i:Nat,q= .int .i64 i∧i≤To.length∧To.length-i≤kx∧Aside (Nv w b1 b2 bn bm VS y31 (ord S) N ⟨.slice ap pl.length cp,.slice ao To.length co,.slice al Tl.length cl,.slice ah Th.length ch,.slice ag Tg.length cg,.slice ax Tx.length cx,.slice af fd.length cf,.slice as' Ts.length cs,.slice aw Tw.length cw,.slice at' ts.length ct,pl,((To.take i).map (fun p:Value×Obd=>(p.1,rnO (nam (ord S)) p.2))++To.drop i),Tl,Th,Tg,Tx,fd,Ts,Tw,ts⟩ wr))
 case atStart=>exact⟨0,rfl,Nat.zero_le _,Nat.le_refl _,NV1⟩
 case round=>
  clear NV1
  obtain⟨i,rfl,hi,hkx,M⟩:=hrel
  have wj:IntKind.i64.wrap ((i:Int)+1)=(i:Int)+1:=by rw[IntKind.wrap_i64];omega
  by_cases hlt:i<To.length
  ·have hltz:(i:Int)<(To.length:Int):=by omega
   have hdr:To.drop i=To[i]::To.drop (i+1):=List.drop_eq_getElem_cons hlt
   have htk:To.take (i+1)=To.take i++ [To[i]]:=List.take_succ_eq_append_getElem hlt
   have hAl:((To.take i).map (fun p:Value×Obd=>(p.1,rnO (nam (ord S)) p.2))).length=i:=by rw[List.length_map,List.length_take];omega
   have hnext:(To.take i).map (fun p:Value×Obd=>(p.1,rnO (nam (ord S)) p.2))++(To[i].1,rnO (nam (ord S)) To[i].2)::To.drop (i+1)=(To.take (i+1)).map (fun p:Value×Obd=>(p.1,rnO (nam (ord S)) p.2))++To.drop (i+1):=by rw[htk,List.map_append,List.append_assoc];rfl
   have hLen:To.length=((To.take i).map (fun p:Value×Obd=>(p.1,rnO (nam (ord S)) p.2))++To[i]::To.drop (i+1)).length:=by rw[List.length_append,hAl,List.length_cons,List.length_drop];omega
   have M0:=M.out
   rw[hdr]at M0
   obtain⟨g,ha⟩: ∃g,ao=some ⟨g,0,none⟩:=a1m (by have:=M0.o.o.r.o;rw[←hLen]at this;exact this) (by omega)
   subst ha
   generalize hTi:To[i]=p at M0 hnext hLen
   obtain⟨v,x⟩:=p
   generalize hA:(To.take i).map (fun p:Value×Obd=>(p.1,rnO (nam (ord S)) p.2))=TA at M0 hnext hAl hLen
   generalize hB:To.drop (i+1)=TB at M0 hnext hLen
   have M1:Aside (Nv w b1 b2 bn bm VS y31 (ord S) N ⟨.slice ap pl.length cp,.slice (some ⟨g,0,none⟩) To.length co,.slice al Tl.length cl,.slice ah Th.length ch,.slice ag Tg.length cg,.slice ax Tx.length cx,.slice af fd.length cf,.slice as' Ts.length cs,.slice aw Tw.length cw,.slice at' ts.length ct,pl,(TA++(v,x)::TB),Tl,Th,Tg,Tx,fd,Ts,Tw,ts⟩ wr):=M0
   have HNX:Hid _:=hnext
   have HAL:Hid _:=hAl
   have HLEN:Hid _:=hLen
   have HBQ:Hid _:=hB
   clear hdr htk hAl hLen hnext M M0 hTi hA hB
   have hown:wr.ownsRow (N 1) 41 14 (.slice (some ⟨g,0,none⟩) To.length co) To.length ((TA++(v,x)::TB).flatMap fun p=>obV p.2 p.1):=(congrArg (fun n=>wr.ownsRow (N 1) 41 14 (.slice (some ⟨g,0,none⟩) To.length co) n ((TA++(v,x)::TB).flatMap fun p=>obV p.2 p.1)) HLEN.out).mpr M1.out.o.o.r.o
   have hgb:=(hown.lt g rfl).1
   have HG:Aside (b1<g):=(by have h1:=M1.out.h2;have h2:=M1.out.h3;have h3:=M1.out.h5;have h4:=M1.out.lo (i:=1) (by decide);show b1<g;omega)
   have hcell: ∀j,j<14→wr.cell? ⟨g,i*k41+j,none⟩=(obV x v)[j]? ∧wr.frozen? ⟨g,i*k41+j,none⟩=false:=fun j hj=>by
    refine⟨?_,hown.frozenAt _⟩
    rw[HK.out,←HAL.out]
    rw[←a4e (F:=fun p:Value×Obd=>obV p.2 p.1) (fun p=>rfl) TA TB (p:=(v,x)) hj]
    refine hown.cellAt _ ?_
    rw[HLEN.out,List.length_append,List.length_cons]
    omega
   have ci0:=(hcell 0 (by decide)).1
   have cb0:=(hcell 11 (by decide)).1
   have fi:=(hcell 0 (by decide)).2
   have fb:=(hcell 11 (by decide)).2
   rw[Nat.add_zero]at ci0 fi
   have ci:wr.cell? ⟨g,i*k41,none⟩=some (.int .i64 x.id):=ci0
   have cb:wr.cell? ⟨g,i*k41+11,none⟩=some (.int .i64 x.block):=cb0
   clear ci0 cb0
   clear hcell hown hgb
   have c1:=CO.out wr M1.out.c1
   go_upto_region 6 with fail
   have D0:=M1.out.gr ((Gr.refl wr).drew)
   have hD1:=Pr.store D0.o.o (by decide) HLEN.out (fun _ _=>rfl) (j:=0) (by decide) (u:=.int .i64 (nam (ord S) x.id)) (x':={x with id:=nam (ord S) x.id}) rfl rfl
   have hD2:=Pr.store hD1.1 (by decide) (HLEN.out.trans (by simp)) (fun _ _=>rfl) (j:=11) (by decide) (u:=.int .i64 (nam (ord S) x.block)) (x':=rnO (nam (ord S)) x) rfl rfl
   have DF:=D0.chO (hD1.2.trans hD2.2) hD2.1
   rw[HAL.out,Nat.add_zero,←HK.out]at DF
   have e9:TA++(v,rnO (nam (ord S)) x)::TB=(To.take (i+1)).map (fun p:Value×Obd=>(p.1,rnO (nam (ord S)) p.2))++To.drop (i+1):=HNX.out.trans (by rw[HBQ.out])
   rw[e9]at DF
   have HDF:Aside (Nv w b1 b2 bn bm VS y31 (ord S) N ⟨.slice ap pl.length cp,.slice (some ⟨g,0,none⟩) To.length co,.slice al Tl.length cl,.slice ah Th.length ch,.slice ag Tg.length cg,.slice ax Tx.length cx,.slice af fd.length cf,.slice as' Ts.length cs,.slice aw Tw.length cw,.slice at' ts.length ct,pl,((To.take (i+1)).map (fun p:Value×Obd=>(p.1,rnO (nam (ord S)) p.2))++To.drop (i+1)),Tl,Th,Tg,Tx,fd,Ts,Tw,ts⟩ ((wr.drew.setCell ⟨g,i*k41,none⟩ (.int .i64 (nam (ord S) x.id))).setCell ⟨g,i*k41+11,none⟩ (.int .i64 (nam (ord S) x.block)))):=DF
   have M2:Aside (Nmr wr.drew bn bm (ord S).length (nmO (ord S))):=D0.m
   have HC0:Aside (wr.cell? ⟨b1,1,none⟩=some (.slice (some ⟨g,0,none⟩) To.length co)):=c1
   clear D0 hD1 hD2 DF e9 M1
   refine wp_region_held_drew (S:=fun W=>W.cell? ⟨b1,1,none⟩=some (.slice (some ⟨g,0,none⟩) To.length co)) mixed HC0.out (fun hHeld=> ?_)
   refine wtk (i:=0) (v:=.pointer (some ⟨b1,1,none⟩)) hHeld ?_ ?_
   ·intro W hW
    clear hW hHeld
    go_simp
   simp only[Act.put,px]
   refine wtk (i:=1) (v:=.slice (some ⟨g,0,none⟩) To.length co) hHeld ?_ ?_
   ·intro W hW
    have cs:=hW
    clear hW hHeld
    go_simp
   simp only[Act.put,px]
   refine wtk (i:=2) (v:=.int .i64 i) hHeld ?_ ?_
   ·intro W hW
    clear hW hHeld
    go_simp
   simp only[Act.put,px]
   refine wtk (i:=3) (v:=.pointer (some ⟨b1,1,none⟩)) hHeld ?_ ?_
   ·intro W hW
    clear hW hHeld
    go_simp
   simp only[Act.put,px]
   refine wtk (i:=4) (v:=.slice (some ⟨g,0,none⟩) To.length co) hHeld ?_ ?_
   ·intro W hW
    have cs:=hW
    clear hW hHeld
    go_simp
   simp only[Act.put,px]
   refine wtk (i:=5) (v:=.int .i64 i) hHeld ?_ ?_
   ·intro W hW
    clear hW hHeld
    go_simp
   simp only[Act.put,px]
   refine wtk (i:=6) (v:=.pointer (some ⟨bn,0,none⟩)) hHeld ?_ ?_
   ·intro W hW
    clear hW hHeld
    go_simp
   simp only[Act.put,px]
   refine wtk (i:=7) (v:=.pointer (some ⟨b1,1,none⟩)) hHeld ?_ ?_
   ·intro W hW
    clear hW hHeld
    go_simp
   simp only[Act.put,px]
   refine wtk (i:=8) (v:=.slice (some ⟨g,0,none⟩) To.length co) hHeld ?_ ?_
   ·intro W hW
    have cs:=hW
    clear hW hHeld
    go_simp
   simp only[Act.put,px]
   refine wtk (i:=9) (v:=.int .i64 i) hHeld ?_ ?_
   ·intro W hW
    clear hW hHeld
    go_simp
   simp only[Act.put,px]
   refine wtk (i:=10) (v:=.pointer (some ⟨g,i*k41,none⟩)) hHeld ?_ ?_
   ·intro W hW
    clear hW hHeld
    go_simp
   simp only[Act.put,px]
   refine wtk (i:=11) (v:=.pointer (some ⟨g,i*k41,none⟩)) hHeld ?_ ?_
   ·intro W hW
    clear hW hHeld
    go_simp
   simp only[Act.put,px]
   refine wtk (i:=14) (v:=.pointer (some ⟨bn,0,none⟩)) hHeld ?_ ?_
   ·intro W hW
    clear hW hHeld
    go_simp
   simp only[Act.put,px]
   refine wtk (i:=15) (v:=.pointer (some ⟨b1,1,none⟩)) hHeld ?_ ?_
   ·intro W hW
    clear hW hHeld
    go_simp
   simp only[Act.put,px]
   refine wtk (i:=16) (v:=.slice (some ⟨g,0,none⟩) To.length co) hHeld ?_ ?_
   ·intro W hW
    have cs:=hW
    clear hW hHeld
    go_simp
   simp only[Act.put,px]
   refine wtk (i:=17) (v:=.int .i64 i) hHeld ?_ ?_
   ·intro W hW
    clear hW hHeld
    go_simp
   simp only[Act.put,px]
   refine wtk (i:=18) (v:=.pointer (some ⟨g,i*k41,none⟩)) hHeld ?_ ?_
   ·intro W hW
    clear hW hHeld
    go_simp
   simp only[Act.put,px]
   refine wtk (i:=19) (v:=.pointer (some ⟨g,i*k41+11,none⟩)) hHeld ?_ ?_
   ·intro W hW
    clear hW hHeld
    go_simp
   simp only[Act.put,px]
   refine wpAnyH_ready (rs:=[12,20]) (by kernel_rfl) (by simp) ?_
   refine AllReadyH.cons rfl (fun K hK=> ?_) (AllReadyH.cons rfl (fun K hK=> ?_) AllReadyH.nil)
   ·skip
    go_simp
    refine hK.out _ _ hHeld (fun hHeld=> ?_)
    clear hK K
    refine wpAnyH_ready (rs:=[13,20]) (by kernel_rfl) (by simp) ?_
    refine AllReadyH.cons rfl (fun K hK=> ?_) (AllReadyH.cons rfl (fun K hK=> ?_) AllReadyH.nil)
    ·skip
     go_simp
     refine(H34.out bn bm x.id wr.drew M2.out).mono ?_
     rintro e w2 ⟨rfl,hw⟩
     obtain rfl:=hw.symm
     refine hK.out _ _ hHeld (fun hHeld=> ?_)
     clear hK K
     refine wrd 20 fun K hK=> ?_
     go_simp
     refine hK.out _ _ hHeld (fun hHeld=> ?_)
     clear hK K
     refine wrd 21 fun K hK=> ?_
     go_simp
     refine(H34.out bn bm x.block wr.drew M2.out).mono ?_
     rintro e w2 ⟨rfl,hw⟩
     obtain rfl:=hw.symm
     refine hK.out _ _ hHeld (fun hHeld=> ?_)
     clear hK K
     refine wtk (i:=22) (v:=.pointer (some ⟨g,i*k41,none⟩)) hHeld ?_ ?_
     ·intro W hW
      clear hW hHeld
      go_simp
     simp only[Act.put,px]
     refine wtk (i:=23) (v:=.pointer (some ⟨g,i*k41,none⟩)) hHeld ?_ ?_
     ·intro W hW
      clear hW hHeld
      go_simp
     simp only[Act.put,px]
     refine wrd 24 fun K hK=> ?_
     go_simp
     refine hK.out _ _ (by first|exact hHeld|(refine Eq.trans (World.cell?_of_block (a0n (by have:=HG.out;show b1≠g;omega) _ _)) hHeld)) (fun hHeld=> ?_)
     clear hK K
     refine wtk (i:=25) (v:=.pointer (some ⟨g,i*k41,none⟩)) hHeld ?_ ?_
     ·intro W hW
      clear hW hHeld
      go_simp
     simp only[Act.put,px]
     refine wtk (i:=26) (v:=.pointer (some ⟨g,i*k41+11,none⟩)) hHeld ?_ ?_
     ·intro W hW
      clear hW hHeld
      go_simp
     simp only[Act.put,px]
     refine wrd 27 fun K hK=> ?_
     go_simp
     refine hK.out _ _ (by first|exact hHeld|(refine Eq.trans (World.cell?_of_block (a0n (by have:=HG.out;show b1≠g;omega) _ _)) hHeld)) (fun hHeld=> ?_)
     clear hK K
     refine wpAnyH_done (by kernel_rfl) ?_ _
     clear HC0 M2 ci cb fi fb c1
     go_wp2
     go_roundg (To.length-(i+1))
     case measure=>omega
     case rel=>exact⟨i+1,by first|rfl|go_num,by omega,Nat.le_refl _,HDF⟩
    ·skip
     go_simp
     refine hK.out _ _ hHeld (fun hHeld=> ?_)
     clear hK K
     refine wrd 13 fun K hK=> ?_
     go_simp
     refine(H34.out bn bm x.id wr.drew M2.out).mono ?_
     rintro e w2 ⟨rfl,hw⟩
     obtain rfl:=hw.symm
     refine hK.out _ _ hHeld (fun hHeld=> ?_)
     clear hK K
     refine wrd 21 fun K hK=> ?_
     go_simp
     refine(H34.out bn bm x.block wr.drew M2.out).mono ?_
     rintro e w2 ⟨rfl,hw⟩
     obtain rfl:=hw.symm
     refine hK.out _ _ hHeld (fun hHeld=> ?_)
     clear hK K
     refine wtk (i:=22) (v:=.pointer (some ⟨g,i*k41,none⟩)) hHeld ?_ ?_
     ·intro W hW
      clear hW hHeld
      go_simp
     simp only[Act.put,px]
     refine wtk (i:=23) (v:=.pointer (some ⟨g,i*k41,none⟩)) hHeld ?_ ?_
     ·intro W hW
      clear hW hHeld
      go_simp
     simp only[Act.put,px]
     refine wrd 24 fun K hK=> ?_
     go_simp
     refine hK.out _ _ (by first|exact hHeld|(refine Eq.trans (World.cell?_of_block (a0n (by have:=HG.out;show b1≠g;omega) _ _)) hHeld)) (fun hHeld=> ?_)
     clear hK K
     refine wtk (i:=25) (v:=.pointer (some ⟨g,i*k41,none⟩)) hHeld ?_ ?_
     ·intro W hW
      clear hW hHeld
      go_simp
     simp only[Act.put,px]
     refine wtk (i:=26) (v:=.pointer (some ⟨g,i*k41+11,none⟩)) hHeld ?_ ?_
     ·intro W hW
      clear hW hHeld
      go_simp
     simp only[Act.put,px]
     refine wrd 27 fun K hK=> ?_
     go_simp
     refine hK.out _ _ (by first|exact hHeld|(refine Eq.trans (World.cell?_of_block (a0n (by have:=HG.out;show b1≠g;omega) _ _)) hHeld)) (fun hHeld=> ?_)
     clear hK K
     refine wpAnyH_done (by kernel_rfl) ?_ _
     clear HC0 M2 ci cb fi fb c1
     go_wp2
     go_roundg (To.length-(i+1))
     case measure=>omega
     case rel=>exact⟨i+1,by first|rfl|go_num,by omega,Nat.le_refl _,HDF⟩
   ·skip
    go_simp
    refine hK.out _ _ hHeld (fun hHeld=> ?_)
    clear hK K
    refine wrd 12 fun K hK=> ?_
    go_simp
    refine hK.out _ _ hHeld (fun hHeld=> ?_)
    clear hK K
    refine wrd 13 fun K hK=> ?_
    go_simp
    refine(H34.out bn bm x.id wr.drew M2.out).mono ?_
    rintro e w2 ⟨rfl,hw⟩
    obtain rfl:=hw.symm
    refine hK.out _ _ hHeld (fun hHeld=> ?_)
    clear hK K
    refine wrd 21 fun K hK=> ?_
    go_simp
    refine(H34.out bn bm x.block wr.drew M2.out).mono ?_
    rintro e w2 ⟨rfl,hw⟩
    obtain rfl:=hw.symm
    refine hK.out _ _ hHeld (fun hHeld=> ?_)
    clear hK K
    refine wtk (i:=22) (v:=.pointer (some ⟨g,i*k41,none⟩)) hHeld ?_ ?_
    ·intro W hW
     clear hW hHeld
     go_simp
    simp only[Act.put,px]
    refine wtk (i:=23) (v:=.pointer (some ⟨g,i*k41,none⟩)) hHeld ?_ ?_
    ·intro W hW
     clear hW hHeld
     go_simp
    simp only[Act.put,px]
    refine wrd 24 fun K hK=> ?_
    go_simp
    refine hK.out _ _ (by first|exact hHeld|(refine Eq.trans (World.cell?_of_block (a0n (by have:=HG.out;show b1≠g;omega) _ _)) hHeld)) (fun hHeld=> ?_)
    clear hK K
    refine wtk (i:=25) (v:=.pointer (some ⟨g,i*k41,none⟩)) hHeld ?_ ?_
    ·intro W hW
     clear hW hHeld
     go_simp
    simp only[Act.put,px]
    refine wtk (i:=26) (v:=.pointer (some ⟨g,i*k41+11,none⟩)) hHeld ?_ ?_
    ·intro W hW
     clear hW hHeld
     go_simp
    simp only[Act.put,px]
    refine wrd 27 fun K hK=> ?_
    go_simp
    refine hK.out _ _ (by first|exact hHeld|(refine Eq.trans (World.cell?_of_block (a0n (by have:=HG.out;show b1≠g;omega) _ _)) hHeld)) (fun hHeld=> ?_)
    clear hK K
    refine wpAnyH_done (by kernel_rfl) ?_ _
    clear HC0 M2 ci cb fi fb c1
    go_wp2
    go_roundg (To.length-(i+1))
    case measure=>omega
    case rel=>exact⟨i+1,by first|rfl|go_num,by omega,Nat.le_refl _,HDF⟩
  ·have hltz: ¬(i:Int)<(To.length:Int):=by omega
   obtain rfl:i=To.length:=by omega
   have M2:Aside (Nv w b1 b2 bn bm VS y31 (ord S) N ⟨.slice ap pl.length cp,.slice ao (To.map (fun p:Value×Obd=>(p.1,rnO (nam (ord S)) p.2))).length co,.slice al Tl.length cl,.slice ah Th.length ch,.slice ag Tg.length cg,.slice ax Tx.length cx,.slice af fd.length cf,.slice as' Ts.length cs,.slice aw Tw.length cw,.slice at' ts.length ct,pl,(To.map (fun p:Value×Obd=>(p.1,rnO (nam (ord S)) p.2))),Tl,Th,Tg,Tx,fd,Ts,Tw,ts⟩ wr):=(by have:=M.out;rw[List.take_length,List.drop_length,List.append_nil]at this;rw[List.length_map];exact this)
   clear M
   go_wp2
   refine HKK.out _ _ ?_
   refine b0G L hk0 HK1.out (by rw[←HY1.out,HK1.out]) HK.out t60 e34 e35 e37 e38 e39 A S H34.out H35.out H37.out H37F.out H38.out H39.out w b1 b2 bn bm N VS ap ao al ah ag ax af as' aw at' cp co cl ch cg cx cf cs cw ct pl (To.map (fun p:Value×Obd=>(p.1,rnO (nam (ord S)) p.2))) Tl Th Tg Tx fd Ts Tw ts (by rw[List.length_map];exact HVS.out) (by rw[List.length_map];exact nTo) ?_ ⟨by have:=HB.out.libs.1;rw[←HTl.out,List.length_map]at this;exact this,a4x HTl.out HB.out.libs.2⟩ ⟨by have:=HB.out.hands.1;rw[←HTh.out,List.length_map]at this;exact this,a4x HTh.out HB.out.hands.2⟩ ⟨by have:=HB.out.graves.1;rw[←HTg.out,List.length_map]at this;exact this,a4x HTg.out HB.out.graves.2⟩ ⟨by have:=HB.out.exiles.1;rw[←HTx.out,List.length_map]at this;exact this,a4x HTx.out HB.out.exiles.2⟩ (by rw[Hfd.out];exact HB.out.field) ⟨by have:=HB.out.stack.1;rw[←HTs.out,List.length_map]at this;exact this,a4x HTs.out HB.out.stack.2⟩ ⟨by have:=HB.out.waits.1;rw[←HTw.out,List.length_map]at this;exact this,a4x HTw.out HB.out.waits.2⟩ (by rw[Hts.out];exact HB.out.ts) wr M2.out _ ?_ _ (by kernel_rfl) _ _ _ _ _ _ _ _ _ _ _ _ _ _ _ _ _ _ _ _ _ _ _ _ _ _ _ _ _ _ _ _ _ _ _ _ _ _ _ _ _ _ _ _ _ _ _ _ _ _ _ _ _ _ _ _ _ _ _ _ _ _ _ _ _ _ _ _ _ _ _ _ _ _ _ _ _ _ _ _ _ _ _ _ _ _ _ _ _ _ _ _ _ _ _ _ _ _ _
   ·intro p hp
    obtain⟨q,_,rfl⟩:=List.mem_map.1 hp
    exact b5r _ HOL.out _
   ·intro To1 V hTo1 hNv
    obtain⟨A',hV,hSt⟩:=hNv.o.st hNv.a ({S with next:=0,cast:={S.cast with obj:=nam (ord S) S.cast.obj}}:Std)
    have e1:To1.map (·.2)=a2S (nam (ord S)) S.obs:=by rw[hTo1,a4I HTo.out (rnO (nam (ord S)))];rfl
    have e2:=a4I HTl.out (List.map (nam (ord S)))
    have e3:=a4I HTh.out (List.map (nam (ord S)))
    have e4:=a4I HTg.out (List.map (nam (ord S)))
    have e5:=a4I HTx.out (List.map (nam (ord S)))
    have e6:=a4I HTs.out (nmI (nam (ord S)))
    have e7:=a4I HTw.out (nmI (nam (ord S)))
    have hS2:Ow.st ⟨.slice ap pl.length cp,.slice ao (To.map (fun p:Value×Obd=>(p.1,rnO (nam (ord S)) p.2))).length co,.slice al Tl.length cl,.slice ah Th.length ch,.slice ag Tg.length cg,.slice ax Tx.length cx,.slice af fd.length cf,.slice as' Ts.length cs,.slice aw Tw.length cw,.slice at' ts.length ct,pl,To1,(Tl.map (fun p:Value×List Int=>(p.1,p.2.map (nam (ord S))))),(Th.map (fun p:Value×List Int=>(p.1,p.2.map (nam (ord S))))),(Tg.map (fun p:Value×List Int=>(p.1,p.2.map (nam (ord S))))),(Tx.map (fun p:Value×List Int=>(p.1,p.2.map (nam (ord S))))),(fd.map (nam (ord S))),(Ts.map (fun p:Value×Itm=>(p.1,nmI (nam (ord S)) p.2))),(Tw.map (fun p:Value×Itm=>(p.1,nmI (nam (ord S)) p.2))),(ts.map fun p:Int×Int=>(p.1,nam (ord S) p.2))⟩ ({S with next:=0,cast:={S.cast with obj:=nam (ord S) S.cast.obj}}:Std)=a6t (nam (ord S)) S:=by
     unfold Ow.st a6t
     simp only[e1,e2,e3,e4,e5,e6,e7,Hfd.out,Hts.out,Hpl.out]
    have hVF:(VS.set 19 (.int .i64 (nam (ord S) S.cast.obj))).set 15 (.int .i64 0)=ovV ⟨.slice ap pl.length cp,.slice ao (To.map (fun p:Value×Obd=>(p.1,rnO (nam (ord S)) p.2))).length co,.slice al Tl.length cl,.slice ah Th.length ch,.slice ag Tg.length cg,.slice ax Tx.length cx,.slice af fd.length cf,.slice as' Ts.length cs,.slice aw Tw.length cw,.slice at' ts.length ct,pl,To1,(Tl.map (fun p:Value×List Int=>(p.1,p.2.map (nam (ord S))))),(Th.map (fun p:Value×List Int=>(p.1,p.2.map (nam (ord S))))),(Tg.map (fun p:Value×List Int=>(p.1,p.2.map (nam (ord S))))),(Tx.map (fun p:Value×List Int=>(p.1,p.2.map (nam (ord S))))),(fd.map (nam (ord S))),(Ts.map (fun p:Value×Itm=>(p.1,nmI (nam (ord S)) p.2))),(Tw.map (fun p:Value×Itm=>(p.1,nmI (nam (ord S)) p.2))),(ts.map fun p:Int×Int=>(p.1,nam (ord S) p.2))⟩ ({S with next:=0,cast:={S.cast with obj:=nam (ord S) S.cast.obj}}:Std):=by rw[←HVS.out,List.length_map];rfl
    rw[hS2]at hV hSt
    have hl:=hNv.h1;have h2:=hNv.h2;have h3:=hNv.h3;have h5:=hNv.h5;have h10:=hNv.s
    refine⟨A',by rw[hVF,hV], ?_,a0l (by omega) _ 0 hNv.b⟩
    rw[a1A]
    exact(hSt.kp (Kp.sets (.inl (by omega)) V 0 _)).mono (by omega) h10
end Go.Proofs.Ytcblehiddfnafaa.canonSame
