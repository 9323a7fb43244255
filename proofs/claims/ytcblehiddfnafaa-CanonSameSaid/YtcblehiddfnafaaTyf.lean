/-
  Chapter 28: the law CanonSame, walked.
-/
import Derived.Test.YtcblehiddfnafaaTye
import Derived.Test.YtcblehiddfnafaaTxZ
namespace Go.Proofs.Ytcblehiddfnafaa.canonSame
open Go.Shelf Go.RowKit Go.Lib Go.Sort
noncomputable def b5l:List Oper:=match Try.f4.body.bind (opsOf 3)with
 |some l=>l
 |none=>[]
noncomputable def op4(i:Nat):Oper:=match b5l[i]? with
 |some o=>o
 |none=>⟨none,.ready 0,0,"", #[],none⟩
def noc(_ _:Nat):Option Value:=none
def nof(_:TypeId)(_:Nat):Option Nat:=none
theorem pf0{P:Program}(t3:P.underlying 3=some (.int .i64))(t4:P.underlying 4=some .bool):PF P nof [] []:=⟨t3,t4,fun _ _ _ h=>(by cases h),fun t h=>(by simp at h),fun t h=>(by simp at h)⟩
set_option maxHeartbeats 8000000 in
set_option maxRecDepth 100000 in
theorem b3y{P:Program}{k29 k31 k41 k43 k45 k66 k97:Nat}{y29 y31 y41 y43 y45 y66 y97:List Value}(L:LayS P k29 k31 k41 k43 k45 k66 k97 y29 y31 y41 y43 y45 y66 y97)(hk:k31=25)(_hyl:y31.length=k31)(f4:P.funcs[4]? =some Try.f4)(e6: ∀args w,(callFunc 6 args).run P w= .ok (.enter 6 args) w)(e9: ∀args w,(callFunc 9 args).run P w= .ok (.enter 9 args) w)(e11: ∀args w,(callFunc 11 args).run P w= .ok (.enter 11 args) w)(e12: ∀args w,(callFunc 12 args).run P w= .ok (.enter 12 args) w)(e13: ∀args w,(callFunc 13 args).run P w= .ok (.enter 13 args) w)
  (A B:Lcs) (S T S1 T1 S2 T2:Std) (q:Bool) (w:World)
    (h6a: ∀W,Below w.heap.size w W→Calls P 6 #[.agg (stV A S).toArray] W fun e w'=> ∃A',e= .returned (.agg (stV A' S1).toArray)∧StX w.heap.size (W.heap.size+1) w' A' S1∧Below W.heap.size W w')
  (h6b: ∀W,Below w.heap.size w W→Calls P 6 #[.agg (stV B T).toArray] W fun e w'=> ∃A',e= .returned (.agg (stV A' T1).toArray)∧StX w.heap.size (W.heap.size+1) w' A' T1∧Below W.heap.size W w')
  (h13: ∀A B W,StI 0 W.heap.size W A S1→StI 0 W.heap.size W B T1→Calls P 13 #[.agg (stV A S1).toArray,.agg (stV B T1).toArray] W fun e w'=>e= .returned (.bool q)∧Below W.heap.size W w')
  (h13t: ∀A B W,StI 0 W.heap.size W A S1→StI 0 W.heap.size W B S1→Calls P 13 #[.agg (stV A S1).toArray,.agg (stV B S1).toArray] W fun e w'=>e= .returned (.bool true)∧Below W.heap.size W w')
  (h11a: ∀A W,StI 0 W.heap.size W A S1→Calls P 11 #[.agg (stV A S1).toArray] W fun e w'=> ∃A',e= .returned (.agg (stV A' S2).toArray)∧StI 0 w'.heap.size w' A' S2∧Below W.heap.size W w')
  (h11b: ∀A W,StI 0 W.heap.size W A T1→Calls P 11 #[.agg (stV A T1).toArray] W fun e w'=> ∃A',e= .returned (.agg (stV A' T2).toArray)∧StI 0 w'.heap.size w' A' T2∧Below W.heap.size W w')
  (h9: ∀A B W,StI 0 W.heap.size W A S2→StI 0 W.heap.size W B T2→Calls P 9 #[.agg (stV A S2).toArray,.agg (stV B T2).toArray] W fun e w'=>e= .returned (.bool q)∧Below W.heap.size W w')
  (h12: ∀W,Calls P 12 #[] W fun e w'=>e= .returned (.bool true)∧Below W.heap.size W w'):
  Calls P 4 #[.agg (stV A S).toArray,.agg (stV B T).toArray] w fun e w'=>e= .returned (.bool true)∧Below w.heap.size w w':=by
 have mixed:=L.mixed;have t3:=L.t3;have t4:=L.t4;have a4:=L.a4;have z4:=L.z4
 have t31:=L.t31;have a31:=L.a31;have z31:=L.z31;have v31:=L.v31;have qu31:=run_underlying L.t31
 have HK:Hid (k31=25):=hk
 obtain⟨g0,c1,c2⟩:=a0W w (stV A S) (stV B T) 31 31
 have G0:Aside (Below w.heap.size w _):=a0N (.refl _ _) (Nat.le_refl _) g0
 have C1:Aside _:=c1
 have C2:Aside _:=c2
 have xl:(stV A S).length=k31:=by rw[hk];rfl
 have yl:(stV B T).length=k31:=by rw[hk];rfl
 have A_h6a:Aside (∀W,Below w.heap.size w W→Calls P 6 #[.agg (stV A S).toArray] W fun e w'=> ∃A',e= .returned (.agg (stV A' S1).toArray)∧StX w.heap.size (W.heap.size+1) w' A' S1∧Below W.heap.size W w'):=h6a
 have A_h6b:Aside (∀W,Below w.heap.size w W→Calls P 6 #[.agg (stV B T).toArray] W fun e w'=> ∃A',e= .returned (.agg (stV A' T1).toArray)∧StX w.heap.size (W.heap.size+1) w' A' T1∧Below W.heap.size W w'):=h6b
 have A_h13:Aside (∀A B W,StI 0 W.heap.size W A S1→StI 0 W.heap.size W B T1→Calls P 13 #[.agg (stV A S1).toArray,.agg (stV B T1).toArray] W fun e w'=>e= .returned (.bool q)∧Below W.heap.size W w'):=h13
 have A_h13t:Aside (∀A B W,StI 0 W.heap.size W A S1→StI 0 W.heap.size W B S1→Calls P 13 #[.agg (stV A S1).toArray,.agg (stV B S1).toArray] W fun e w'=>e= .returned (.bool true)∧Below W.heap.size W w'):=h13t
 have A_h11a:Aside (∀A W,StI 0 W.heap.size W A S1→Calls P 11 #[.agg (stV A S1).toArray] W fun e w'=> ∃A',e= .returned (.agg (stV A' S2).toArray)∧StI 0 w'.heap.size w' A' S2∧Below W.heap.size W w'):=h11a
 have A_h11b:Aside (∀A W,StI 0 W.heap.size W A T1→Calls P 11 #[.agg (stV A T1).toArray] W fun e w'=> ∃A',e= .returned (.agg (stV A' T2).toArray)∧StI 0 w'.heap.size w' A' T2∧Below W.heap.size W w'):=h11b
 have A_h9:Aside (∀A B W,StI 0 W.heap.size W A S2→StI 0 W.heap.size W B T2→Calls P 9 #[.agg (stV A S2).toArray,.agg (stV B T2).toArray] W fun e w'=>e= .returned (.bool q)∧Below W.heap.size W w'):=h9
 have A_h12:Aside (∀W,Calls P 12 #[] W fun e w'=>e= .returned (.bool true)∧Below W.heap.size W w'):=h12
 generalize hX0:stV A S=X0 at C1 C2 G0 xl ⊢
 have HX0:Hid _:=hX0
 generalize hY0:stV B T=Y0 at C1 C2 G0 yl ⊢
 have HY0:Hid _:=hY0
 have HSZ:Aside (((w.alloc (.cells X0.toArray 31)).alloc (.cells Y0.toArray 31)).heap.size=w.heap.size+2):=b8a
 clear hX0 hY0 g0 c1 c2 h6a h6b h13 h13t h11a h11b h9 h12 hk _hyl
 go_enter f4,Try.ntmps4
 go_upto_region 1 with fail
 generalize (w.alloc (.cells X0.toArray 31)).alloc (.cells Y0.toArray 31)=W0 at C1 C2 G0 HSZ ⊢
 have lA:=a0I P (a0A C1.out) xl
 have hc:Calls P 6 #[.agg X0.toArray] W0 fun e w'=> ∃A',e= .returned (.agg (stV A' S1).toArray)∧StX w.heap.size (W0.heap.size+1) w' A' S1∧Below W0.heap.size W0 w':=by rw[←HX0.out];exact A_h6a.out W0 G0.out
 go_upto_region 2 with(go_at_fn 6;refine hc.mono ?_;rintro e V0 ⟨A1,rfl,r1,r2⟩;have X1:Aside (StX w.heap.size (W0.heap.size+1) V0 A1 S1):=r1;have R2:Aside (Below W0.heap.size W0 V0):=r2;have bx1:=(r2.block _ (a0L C1.out)).trans C1.out;have sA:=a0P P (a0A bx1) (stV A1 S1) (by rw[xl,HK.out];rfl) (a4D _ _);have BX1:Aside _:=a0Y bx1 (stV A1 S1) (by rw[xl,HK.out];rfl);have BY1:Aside ((V0.setCells w.heap.size 0 (stV A1 S1)).heap[w.heap.size+1]? =some (.cells Y0.toArray 31)):=(a0R (by omega) _ 0).trans ((r2.block _ (a0L C2.out)).trans C2.out);have TL1:(stV A1 S1).length=k31:=HK.out.symm;clear bx1 r1 r2)
 have ZX:Aside (StX w.heap.size (W0.heap.size+1) (V0.setCells w.heap.size 0 (stV A1 S1)) A1 S1):=X1.out.kx ⟨by rw[a1A];exact Nat.le_refl _,fun j hj _=>a0R (by have:=HSZ.out;omega) _ 0⟩
 have BW1:Aside (Below w.heap.size w (V0.setCells w.heap.size 0 (stV A1 S1))):=a0l (Nat.le_refl _) _ 0 (G0.out.trans (R2.out.mono G0.out.size))
 clear hc lA sA G0 C1 C2 X1 R2
 generalize V0.setCells w.heap.size 0 (stV A1 S1)=W1 at BX1 BY1 ZX BW1 ⊢
 have lB:=a0I P (a0A BY1.out) yl
 have hc:Calls P 6 #[.agg Y0.toArray] W1 fun e w'=> ∃A',e= .returned (.agg (stV A' T1).toArray)∧StX w.heap.size (W1.heap.size+1) w' A' T1∧Below W1.heap.size W1 w':=by rw[←HY0.out];exact A_h6b.out W1 BW1.out
 go_upto_region 3 with(go_at_fn 6;refine hc.mono ?_;rintro e V1 ⟨B1,rfl,r1,r2⟩;have X2:Aside (StX w.heap.size (W1.heap.size+1) V1 B1 T1):=r1;have R2:Aside (Below W1.heap.size W1 V1):=r2;have by1:=(r2.block _ (a0L BY1.out)).trans BY1.out;have sB:=a0P P (a0A by1) (stV B1 T1) (by rw[yl,HK.out];rfl) (a4D _ _);have BY2:Aside _:=a0Y by1 (stV B1 T1) (by rw[yl,HK.out];rfl);have BX2:Aside ((V1.setCells (w.heap.size+1) 0 (stV B1 T1)).heap[w.heap.size]? =some (.cells (stV A1 S1).toArray 31)):=(a0R (by omega) _ 0).trans ((r2.block _ (a0L BX1.out)).trans BX1.out);have TL2:(stV B1 T1).length=k31:=HK.out.symm;clear by1 r1 r2)
 have IX:Aside (StI 0 (V1.setCells (w.heap.size+1) 0 (stV B1 T1)).heap.size (V1.setCells (w.heap.size+1) 0 (stV B1 T1)) A1 S1):=((ZX.out.kx ⟨R2.out.size,fun k _ hk=>R2.out.block k hk⟩).kx ⟨by rw[a1A];exact Nat.le_refl _,fun j hj _=>a0R (by have:=HSZ.out;omega) _ 0⟩).i
 have IY:Aside (StI 0 (V1.setCells (w.heap.size+1) 0 (stV B1 T1)).heap.size (V1.setCells (w.heap.size+1) 0 (stV B1 T1)) B1 T1):=(X2.out.kx ⟨by rw[a1A];exact Nat.le_refl _,fun j hj _=>a0R (by have:=a0L BY1.out;omega) _ 0⟩).i
 have BW2:Aside (Below w.heap.size w (V1.setCells (w.heap.size+1) 0 (stV B1 T1))):=a0l (Nat.le_succ _) _ 0 (BW1.out.trans (R2.out.mono BW1.out.size))
 clear hc lB sB BX1 BY1 ZX X2 R2 BW1
 generalize V1.setCells (w.heap.size+1) 0 (stV B1 T1)=W2 at BX2 BY2 IX IY BW2 ⊢
 refine Code.wp_mono (Q:=Exit.then (fun a' w'=>a'.defers= []∧a'.tmps[4]? =some (.bool true)∧Below w.heap.size w w') (fun _ _ _=>False)) ?_ ?_
 ·intro e a' w' h
  cases e with
  |normal=>
   obtain⟨h1,h2,h3⟩:=h
   go_wp2
   exact a2r rfl h2 h1 ⟨rfl,h3⟩
  |_=>exact False.elim h
 have keep: ∀{U V:World},(U.heap[w.heap.size]? =some (.cells (stV A1 S1).toArray 31)∧U.heap[w.heap.size+1]? =some (.cells (stV B1 T1).toArray 31)∧Below w.heap.size w U∧StI 0 U.heap.size U A1 S1∧StI 0 U.heap.size U B1 T1)→Below U.heap.size U V→(V.heap[w.heap.size]? =some (.cells (stV A1 S1).toArray 31)∧V.heap[w.heap.size+1]? =some (.cells (stV B1 T1).toArray 31)∧Below w.heap.size w V∧StI 0 V.heap.size V A1 S1∧StI 0 V.heap.size V B1 T1):=fun{U V} h hb=>⟨(hb.block _ (a0L h.1)).trans h.1,(hb.block _ (a0L h.2.1)).trans h.2.1,h.2.2.1.trans (hb.mono h.2.2.1.size),(h.2.2.2.1.kp ((Kp.below hb 0).mono (Nat.le_refl _) (Nat.le_refl _))).mono (Nat.le_refl _) hb.size,(h.2.2.2.2.kp ((Kp.below hb 0).mono (Nat.le_refl _) (Nat.le_refl _))).mono (Nat.le_refl _) hb.size⟩
 have hq0:W2.heap[w.heap.size]? =some (.cells (stV A1 S1).toArray 31)∧W2.heap[w.heap.size+1]? =some (.cells (stV B1 T1).toArray 31)∧Below w.heap.size w W2∧StI 0 W2.heap.size W2 A1 S1∧StI 0 W2.heap.size W2 B1 T1:=⟨BX2.out,BY2.out,BW2.out,IX.out,IY.out⟩
 refine wp_region_held_drew (S:=fun U=>U.heap[w.heap.size]? =some (.cells (stV A1 S1).toArray 31)∧U.heap[w.heap.size+1]? =some (.cells (stV B1 T1).toArray 31)∧Below w.heap.size w U∧StI 0 U.heap.size U A1 S1∧StI 0 U.heap.size U B1 T1) mixed (keep hq0 (a3k (Gr.refl _).drew)) (fun hS0=> ?_)
 generalize W2.drew=U0 at hS0 ⊢
 refine a5w (base:=b6b w.heap.size (w.heap.size+1)) (m:=26) (df:=[]) (known:=[(2,.ptr 0 0),(3,.ptr 1 0)]) ⟨fun k s h=>by rcases a1C h with⟨rfl,rfl⟩|⟨rfl,rfl⟩<;>rfl,by rfl,by rfl⟩ (fun a0 g0=> ?_)
 generalize hops:List.toArray _=opsA
 obtain rfl:opsA=b5l.toArray:=hops.symm.trans (by kernel_rfl)
 clear hops
 have hsz:b5l.toArray.size=18:=by kernel_rfl
 rw[hsz]
 have hsel:Region.noSelect b5l.toArray=true:=by kernel_rfl
 have x0:a0.eval (.tmp 2)= .pointer (some ⟨w.heap.size,0,none⟩):=a0h g0.k (s:=.ptr 0 0) rfl
 have o0:(op4 0).op= .load 31 (.tmp 2):=by kernel_rfl
 refine a4B (i:=0) (d:=9) (o:=op4 0) (s:=⟨[(2,.ptr 0 0),(3,.ptr 1 0)],[],[]⟩) (v:=.agg (stV A1 S1).toArray) hsel (fun _ _ _ _ _ h=>h) (by kernel_rfl) (by kernel_rfl) (by kernel_rfl) (by kernel_rfl) (by kernel_rfl) (by kernel_rfl) g0 ?_ hS0 (fun a1 g1=> ?_)
 ·intro W hW
  have lx:=a0I P (a0A hW.1) TL1
  clear hS0 hW
  unfold execOp
  simp only[o0,x0]
  go_simp
 have x1:a1.eval (.tmp 3)= .pointer (some ⟨w.heap.size+1,0,none⟩):=a0h g1.k (s:=.ptr 1 0) rfl
 have o1:(op4 1).op= .load 31 (.tmp 3):=by kernel_rfl
 refine a4B (i:=1) (d:=10) (o:=op4 1) (s:=⟨[(9,.val (.agg (stV A1 S1).toArray)),(2,.ptr 0 0),(3,.ptr 1 0)],[],[]⟩) (v:=.agg (stV B1 T1).toArray) hsel (fun _ _ _ _ _ h=>h) (by kernel_rfl) (by kernel_rfl) (by kernel_rfl) (by kernel_rfl) (by kernel_rfl) (by kernel_rfl) g1 ?_ hS0 (fun a2 g2=> ?_)
 ·intro W hW
  have lx:=a0I P (a0A hW.2.1) TL2
  clear hS0 hW
  unfold execOp
  simp only[o1,x1]
  go_simp
 have x3:a2.eval (.tmp 2)= .pointer (some ⟨w.heap.size,0,none⟩):=a0h g2.k (s:=.ptr 0 0) rfl
 have o3:(op4 3).op= .load 31 (.tmp 2):=by kernel_rfl
 refine a4B (i:=3) (d:=12) (o:=op4 3) (s:=⟨[(10,.val (.agg (stV B1 T1).toArray)),(9,.val (.agg (stV A1 S1).toArray)),(2,.ptr 0 0),(3,.ptr 1 0)],[],[]⟩) (v:=.agg (stV A1 S1).toArray) hsel (fun _ _ _ _ _ h=>h) (by kernel_rfl) (by kernel_rfl) (by kernel_rfl) (by kernel_rfl) (by kernel_rfl) (by kernel_rfl) g2 ?_ hS0 (fun a3 g3=> ?_)
 ·intro W hW
  have lx:=a0I P (a0A hW.1) TL1
  clear hS0 hW
  unfold execOp
  simp only[o3,x3]
  go_simp
 have x5:a3.eval (.tmp 3)= .pointer (some ⟨w.heap.size+1,0,none⟩):=a0h g3.k (s:=.ptr 1 0) rfl
 have o5:(op4 5).op= .load 31 (.tmp 3):=by kernel_rfl
 refine a4B (i:=5) (d:=14) (o:=op4 5) (s:=⟨[(12,.val (.agg (stV A1 S1).toArray)),(10,.val (.agg (stV B1 T1).toArray)),(9,.val (.agg (stV A1 S1).toArray)),(2,.ptr 0 0),(3,.ptr 1 0)],[],[]⟩) (v:=.agg (stV B1 T1).toArray) hsel (fun _ _ _ _ _ h=>h) (by kernel_rfl) (by kernel_rfl) (by kernel_rfl) (by kernel_rfl) (by kernel_rfl) (by kernel_rfl) g3 ?_ hS0 (fun a4 g4=> ?_)
 ·intro W hW
  have lx:=a0I P (a0A hW.2.1) TL2
  clear hS0 hW
  unfold execOp
  simp only[o5,x5]
  go_simp
 refine a8a (i:=2) (d:=11) (f:=13) (o:=op4 2) (c:={callee:=.value (.func 13),args:= #[.tmp 9,.tmp 10],argTypes:= #[31,31]}) (s:=⟨[(14,.val (.agg (stV B1 T1).toArray)),(12,.val (.agg (stV A1 S1).toArray)),(10,.val (.agg (stV B1 T1).toArray)),(9,.val (.agg (stV A1 S1).toArray)),(2,.ptr 0 0),(3,.ptr 1 0)],[],[]⟩) (vs:=[.agg (stV A1 S1).toArray,.agg (stV B1 T1).toArray]) (v:=fun _ u=>u= .bool q) (by kernel_rfl) (by kernel_rfl) (by kernel_rfl) (by kernel_rfl) (by kernel_rfl) (by kernel_rfl) (by kernel_rfl) e13 g4 ?_ ?_
 ·refine Calls.mono (A_h13.out A1 B1 U0 hS0.2.2.2.1 hS0.2.2.2.2) ?_
  rintro e w' ⟨rfl,h2⟩
  exact⟨_,rfl,rfl,keep hS0 h2⟩
 rintro a5 U1 u rfl hS1 g5
 refine a8a (i:=4) (d:=13) (f:=11) (o:=op4 4) (c:={callee:=.value (.func 11),args:= #[.tmp 12],argTypes:= #[31]}) (s:=⟨[(11,.val (.bool q)),(14,.val (.agg (stV B1 T1).toArray)),(12,.val (.agg (stV A1 S1).toArray)),(10,.val (.agg (stV B1 T1).toArray)),(9,.val (.agg (stV A1 S1).toArray)),(2,.ptr 0 0),(3,.ptr 1 0)],[],[]⟩) (vs:=[.agg (stV A1 S1).toArray]) (v:=fun w' u=> ∃A',u= .agg (stV A' S2).toArray∧StI 0 w'.heap.size w' A' S2) (by kernel_rfl) (by kernel_rfl) (by kernel_rfl) (by kernel_rfl) (by kernel_rfl) (by kernel_rfl) (by kernel_rfl) e11 g5 ?_ ?_
 ·refine Calls.mono (A_h11a.out A1 U1 hS1.2.2.2.1) ?_
  rintro e w' ⟨A',rfl,h1,h2⟩
  exact⟨_,rfl,⟨A',rfl,h1⟩,keep hS1 h2⟩
 rintro a6 U2 u ⟨A2,rfl,hA2⟩ hS2 g6
 refine a8a (i:=6) (d:=15) (f:=11) (o:=op4 6) (c:={callee:=.value (.func 11),args:= #[.tmp 14],argTypes:= #[31]}) (s:=⟨[(13,.val (.agg (stV A2 S2).toArray)),(11,.val (.bool q)),(14,.val (.agg (stV B1 T1).toArray)),(12,.val (.agg (stV A1 S1).toArray)),(10,.val (.agg (stV B1 T1).toArray)),(9,.val (.agg (stV A1 S1).toArray)),(2,.ptr 0 0),(3,.ptr 1 0)],[],[]⟩) (vs:=[.agg (stV B1 T1).toArray]) (v:=fun w' u=> ∃A',u= .agg (stV A' T2).toArray∧StI 0 w'.heap.size w' A' T2∧StI 0 w'.heap.size w' A2 S2) (by kernel_rfl) (by kernel_rfl) (by kernel_rfl) (by kernel_rfl) (by kernel_rfl) (by kernel_rfl) (by kernel_rfl) e11 g6 ?_ ?_
 ·refine Calls.mono (A_h11b.out B1 U2 hS2.2.2.2.2) ?_
  rintro e w' ⟨A',rfl,h1,h2⟩
  exact⟨_,rfl,⟨A',rfl,h1,(hA2.kp ((Kp.below h2 0).mono (Nat.le_refl _) (Nat.le_refl _))).mono (Nat.le_refl _) h2.size⟩,keep hS2 h2⟩
 rintro a7 U3 u ⟨B2,rfl,hB2,hA3⟩ hS3 g7
 refine a8a (i:=7) (d:=16) (f:=9) (o:=op4 7) (c:={callee:=.value (.func 9),args:= #[.tmp 13,.tmp 15],argTypes:= #[31,31]}) (s:=⟨[(15,.val (.agg (stV B2 T2).toArray)),(13,.val (.agg (stV A2 S2).toArray)),(11,.val (.bool q)),(14,.val (.agg (stV B1 T1).toArray)),(12,.val (.agg (stV A1 S1).toArray)),(10,.val (.agg (stV B1 T1).toArray)),(9,.val (.agg (stV A1 S1).toArray)),(2,.ptr 0 0),(3,.ptr 1 0)],[],[]⟩) (vs:=[.agg (stV A2 S2).toArray,.agg (stV B2 T2).toArray]) (v:=fun _ u=>u= .bool q) (by kernel_rfl) (by kernel_rfl) (by kernel_rfl) (by kernel_rfl) (by kernel_rfl) (by kernel_rfl) (by kernel_rfl) e9 g7 ?_ ?_
 ·refine Calls.mono (A_h9.out A2 B2 U3 hA3 hB2) ?_
  rintro e w' ⟨rfl,h2⟩
  exact⟨_,rfl,rfl,keep hS3 h2⟩
 rintro a8 U4 u rfl hS4 g8
 have x8a:a8.eval (.tmp 11)= .bool q:=a0h g8.k (s:=.val (.bool q)) rfl
 have x8b:a8.eval (.tmp 16)= .bool q:=a0h g8.k (s:=.val (.bool q)) rfl
 have o8:(op4 8).op= .binOp .eql 4 (.tmp 11) (.tmp 16) 4:=by kernel_rfl
 refine a4B (i:=8) (d:=17) (o:=op4 8) (s:=⟨[(16,.val (.bool q)),(15,.val (.agg (stV B2 T2).toArray)),(13,.val (.agg (stV A2 S2).toArray)),(11,.val (.bool q)),(14,.val (.agg (stV B1 T1).toArray)),(12,.val (.agg (stV A1 S1).toArray)),(10,.val (.agg (stV B1 T1).toArray)),(9,.val (.agg (stV A1 S1).toArray)),(2,.ptr 0 0),(3,.ptr 1 0)],[],[]⟩) (v:=.bool true) hsel (fun _ _ _ _ _ h=>h) (by kernel_rfl) (by kernel_rfl) (by kernel_rfl) (by kernel_rfl) (by kernel_rfl) (by kernel_rfl) g8 ?_ hS4 (fun a9 g9=> ?_)
 ·intro W hW
  have qu4:=run_underlying t4
  clear hS4 hW
  unfold execOp
  simp only[o8,x8a,x8b]
  cases q<;>go_simp
 have r9:b4B nof [] [] noc 26 b5l ⟨[(17,.val (.bool true)),(16,.val (.bool q)),(15,.val (.agg (stV B2 T2).toArray)),(13,.val (.agg (stV A2 S2).toArray)),(11,.val (.bool q)),(14,.val (.agg (stV B1 T1).toArray)),(12,.val (.agg (stV A1 S1).toArray)),(10,.val (.agg (stV B1 T1).toArray)),(9,.val (.agg (stV A1 S1).toArray)),(2,.ptr 0 0),(3,.ptr 1 0)],[],[]⟩ ((((((((((Array.replicate 18 false).setIfInBounds 0 true).setIfInBounds 1 true).setIfInBounds 3 true).setIfInBounds 5 true).setIfInBounds 2 true).setIfInBounds 4 true).setIfInBounds 6 true).setIfInBounds 7 true).setIfInBounds 8 true) [9]=some (⟨[(18,.val (.bool true)),(17,.val (.bool true)),(16,.val (.bool q)),(15,.val (.agg (stV B2 T2).toArray)),(13,.val (.agg (stV A2 S2).toArray)),(11,.val (.bool q)),(14,.val (.agg (stV B1 T1).toArray)),(12,.val (.agg (stV A1 S1).toArray)),(10,.val (.agg (stV B1 T1).toArray)),(9,.val (.agg (stV A1 S1).toArray)),(2,.ptr 0 0),(3,.ptr 1 0)],[],[]⟩,(((((((((((Array.replicate 18 false).setIfInBounds 0 true).setIfInBounds 1 true).setIfInBounds 3 true).setIfInBounds 5 true).setIfInBounds 2 true).setIfInBounds 4 true).setIfInBounds 6 true).setIfInBounds 7 true).setIfInBounds 8 true).setIfInBounds 9 true)):=by kernel_rfl
 refine(a4u (fuel:=8) (pf0 t3 t4) (fun _ _ _ _ _ h=>(by cases h)) hsel (fun _ _ _ _ _ h=>h) r9 trivial g9 hS4 (fun a10 g10=> ?_)).2
 have x10:a10.eval (.tmp 2)= .pointer (some ⟨w.heap.size,0,none⟩):=a0h g10.k (s:=.ptr 0 0) rfl
 have o10:(op4 10).op= .load 31 (.tmp 2):=by kernel_rfl
 refine a4B (i:=10) (d:=19) (o:=op4 10) (s:=⟨[(18,.val (.bool true)),(17,.val (.bool true)),(16,.val (.bool q)),(15,.val (.agg (stV B2 T2).toArray)),(13,.val (.agg (stV A2 S2).toArray)),(11,.val (.bool q)),(14,.val (.agg (stV B1 T1).toArray)),(12,.val (.agg (stV A1 S1).toArray)),(10,.val (.agg (stV B1 T1).toArray)),(9,.val (.agg (stV A1 S1).toArray)),(2,.ptr 0 0),(3,.ptr 1 0)],[],[]⟩) (v:=.agg (stV A1 S1).toArray) hsel (fun _ _ _ _ _ h=>h) (by kernel_rfl) (by kernel_rfl) (by kernel_rfl) (by kernel_rfl) (by kernel_rfl) (by kernel_rfl) g10 ?_ hS4 (fun a11 g11=> ?_)
 ·intro W hW
  have lx:=a0I P (a0A hW.1) TL1
  clear hS4 hW
  unfold execOp
  simp only[o10,x10]
  go_simp
 have x11:a11.eval (.tmp 2)= .pointer (some ⟨w.heap.size,0,none⟩):=a0h g11.k (s:=.ptr 0 0) rfl
 have o11:(op4 11).op= .load 31 (.tmp 2):=by kernel_rfl
 refine a4B (i:=11) (d:=20) (o:=op4 11) (s:=⟨[(19,.val (.agg (stV A1 S1).toArray)),(18,.val (.bool true)),(17,.val (.bool true)),(16,.val (.bool q)),(15,.val (.agg (stV B2 T2).toArray)),(13,.val (.agg (stV A2 S2).toArray)),(11,.val (.bool q)),(14,.val (.agg (stV B1 T1).toArray)),(12,.val (.agg (stV A1 S1).toArray)),(10,.val (.agg (stV B1 T1).toArray)),(9,.val (.agg (stV A1 S1).toArray)),(2,.ptr 0 0),(3,.ptr 1 0)],[],[]⟩) (v:=.agg (stV A1 S1).toArray) hsel (fun _ _ _ _ _ h=>h) (by kernel_rfl) (by kernel_rfl) (by kernel_rfl) (by kernel_rfl) (by kernel_rfl) (by kernel_rfl) g11 ?_ hS4 (fun a12 g12=> ?_)
 ·intro W hW
  have lx:=a0I P (a0A hW.1) TL1
  clear hS4 hW
  unfold execOp
  simp only[o11,x11]
  go_simp
 refine a8a (i:=12) (d:=21) (f:=13) (o:=op4 12) (c:={callee:=.value (.func 13),args:= #[.tmp 19,.tmp 20],argTypes:= #[31,31]}) (s:=⟨[(20,.val (.agg (stV A1 S1).toArray)),(19,.val (.agg (stV A1 S1).toArray)),(18,.val (.bool true)),(17,.val (.bool true)),(16,.val (.bool q)),(15,.val (.agg (stV B2 T2).toArray)),(13,.val (.agg (stV A2 S2).toArray)),(11,.val (.bool q)),(14,.val (.agg (stV B1 T1).toArray)),(12,.val (.agg (stV A1 S1).toArray)),(10,.val (.agg (stV B1 T1).toArray)),(9,.val (.agg (stV A1 S1).toArray)),(2,.ptr 0 0),(3,.ptr 1 0)],[],[]⟩) (vs:=[.agg (stV A1 S1).toArray,.agg (stV A1 S1).toArray]) (v:=fun _ u=>u= .bool true) (by kernel_rfl) (by kernel_rfl) (by kernel_rfl) (by kernel_rfl) (by kernel_rfl) (by kernel_rfl) (by kernel_rfl) e13 g12 ?_ ?_
 ·refine Calls.mono (A_h13t.out A1 A1 U4 hS4.2.2.2.1 hS4.2.2.2.1) ?_
  rintro e w' ⟨rfl,h2⟩
  exact⟨_,rfl,rfl,keep hS4 h2⟩
 rintro a13 U5 u rfl hS5 g13
 have r13:b4B nof [] [] noc 26 b5l ⟨[(21,.val (.bool true)),(20,.val (.agg (stV A1 S1).toArray)),(19,.val (.agg (stV A1 S1).toArray)),(18,.val (.bool true)),(17,.val (.bool true)),(16,.val (.bool q)),(15,.val (.agg (stV B2 T2).toArray)),(13,.val (.agg (stV A2 S2).toArray)),(11,.val (.bool q)),(14,.val (.agg (stV B1 T1).toArray)),(12,.val (.agg (stV A1 S1).toArray)),(10,.val (.agg (stV B1 T1).toArray)),(9,.val (.agg (stV A1 S1).toArray)),(2,.ptr 0 0),(3,.ptr 1 0)],[],[]⟩ ((((((((((((((Array.replicate 18 false).setIfInBounds 0 true).setIfInBounds 1 true).setIfInBounds 3 true).setIfInBounds 5 true).setIfInBounds 2 true).setIfInBounds 4 true).setIfInBounds 6 true).setIfInBounds 7 true).setIfInBounds 8 true).setIfInBounds 9 true).setIfInBounds 10 true).setIfInBounds 11 true).setIfInBounds 12 true) [13,14]=some (⟨[(23,.val (.bool true)),(22,.val (.bool true)),(21,.val (.bool true)),(20,.val (.agg (stV A1 S1).toArray)),(19,.val (.agg (stV A1 S1).toArray)),(18,.val (.bool true)),(17,.val (.bool true)),(16,.val (.bool q)),(15,.val (.agg (stV B2 T2).toArray)),(13,.val (.agg (stV A2 S2).toArray)),(11,.val (.bool q)),(14,.val (.agg (stV B1 T1).toArray)),(12,.val (.agg (stV A1 S1).toArray)),(10,.val (.agg (stV B1 T1).toArray)),(9,.val (.agg (stV A1 S1).toArray)),(2,.ptr 0 0),(3,.ptr 1 0)],[],[]⟩,((((((((((((((((Array.replicate 18 false).setIfInBounds 0 true).setIfInBounds 1 true).setIfInBounds 3 true).setIfInBounds 5 true).setIfInBounds 2 true).setIfInBounds 4 true).setIfInBounds 6 true).setIfInBounds 7 true).setIfInBounds 8 true).setIfInBounds 9 true).setIfInBounds 10 true).setIfInBounds 11 true).setIfInBounds 12 true).setIfInBounds 13 true).setIfInBounds 14 true)):=by kernel_rfl
 refine(a4u (fuel:=3) (pf0 t3 t4) (fun _ _ _ _ _ h=>(by cases h)) hsel (fun _ _ _ _ _ h=>h) r13 trivial g13 hS5 (fun a14 g14=> ?_)).2
 refine a8a (i:=15) (d:=24) (f:=12) (o:=op4 15) (c:={callee:=.value (.func 12),args:= #[],argTypes:= #[]}) (s:=⟨[(23,.val (.bool true)),(22,.val (.bool true)),(21,.val (.bool true)),(20,.val (.agg (stV A1 S1).toArray)),(19,.val (.agg (stV A1 S1).toArray)),(18,.val (.bool true)),(17,.val (.bool true)),(16,.val (.bool q)),(15,.val (.agg (stV B2 T2).toArray)),(13,.val (.agg (stV A2 S2).toArray)),(11,.val (.bool q)),(14,.val (.agg (stV B1 T1).toArray)),(12,.val (.agg (stV A1 S1).toArray)),(10,.val (.agg (stV B1 T1).toArray)),(9,.val (.agg (stV A1 S1).toArray)),(2,.ptr 0 0),(3,.ptr 1 0)],[],[]⟩) (vs:=[]) (v:=fun _ u=>u= .bool true) (by kernel_rfl) (by kernel_rfl) (by kernel_rfl) (by kernel_rfl) (by kernel_rfl) (by kernel_rfl) (by kernel_rfl) e12 g14 ?_ ?_
 ·refine Calls.mono (A_h12.out U5) ?_
  rintro e w' ⟨rfl,h2⟩
  exact⟨_,rfl,rfl,keep hS5 h2⟩
 rintro a15 U6 u rfl hS6 g15
 have r16:b4B nof [] [] noc 26 b5l ⟨[(24,.val (.bool true)),(23,.val (.bool true)),(22,.val (.bool true)),(21,.val (.bool true)),(20,.val (.agg (stV A1 S1).toArray)),(19,.val (.agg (stV A1 S1).toArray)),(18,.val (.bool true)),(17,.val (.bool true)),(16,.val (.bool q)),(15,.val (.agg (stV B2 T2).toArray)),(13,.val (.agg (stV A2 S2).toArray)),(11,.val (.bool q)),(14,.val (.agg (stV B1 T1).toArray)),(12,.val (.agg (stV A1 S1).toArray)),(10,.val (.agg (stV B1 T1).toArray)),(9,.val (.agg (stV A1 S1).toArray)),(2,.ptr 0 0),(3,.ptr 1 0)],[],[]⟩ (((((((((((((((((Array.replicate 18 false).setIfInBounds 0 true).setIfInBounds 1 true).setIfInBounds 3 true).setIfInBounds 5 true).setIfInBounds 2 true).setIfInBounds 4 true).setIfInBounds 6 true).setIfInBounds 7 true).setIfInBounds 8 true).setIfInBounds 9 true).setIfInBounds 10 true).setIfInBounds 11 true).setIfInBounds 12 true).setIfInBounds 13 true).setIfInBounds 14 true).setIfInBounds 15 true) [16,17]=some (⟨[(4,.val (.bool true)),(25,.val (.bool true)),(24,.val (.bool true)),(23,.val (.bool true)),(22,.val (.bool true)),(21,.val (.bool true)),(20,.val (.agg (stV A1 S1).toArray)),(19,.val (.agg (stV A1 S1).toArray)),(18,.val (.bool true)),(17,.val (.bool true)),(16,.val (.bool q)),(15,.val (.agg (stV B2 T2).toArray)),(13,.val (.agg (stV A2 S2).toArray)),(11,.val (.bool q)),(14,.val (.agg (stV B1 T1).toArray)),(12,.val (.agg (stV A1 S1).toArray)),(10,.val (.agg (stV B1 T1).toArray)),(9,.val (.agg (stV A1 S1).toArray)),(2,.ptr 0 0),(3,.ptr 1 0)],[],[]⟩,(((((((((((((((((((Array.replicate 18 false).setIfInBounds 0 true).setIfInBounds 1 true).setIfInBounds 3 true).setIfInBounds 5 true).setIfInBounds 2 true).setIfInBounds 4 true).setIfInBounds 6 true).setIfInBounds 7 true).setIfInBounds 8 true).setIfInBounds 9 true).setIfInBounds 10 true).setIfInBounds 11 true).setIfInBounds 12 true).setIfInBounds 13 true).setIfInBounds 14 true).setIfInBounds 15 true).setIfInBounds 16 true).setIfInBounds 17 true)):=by kernel_rfl
 refine(a4u (fuel:=0) (pf0 t3 t4) (fun _ _ _ _ _ h=>(by cases h)) hsel (fun _ _ _ _ _ h=>h) r16 trivial g15 hS6 (fun a16 g16=> ?_)).2
 exact wpAnyH_done (by kernel_rfl) ⟨g16.d,g16.k 4 _ rfl,hS6.2.2.1⟩ _
end Go.Proofs.Ytcblehiddfnafaa.canonSame
namespace Go.Proofs.Ytcblehiddfnafaa.canonSame
open Go.Shelf Go.RowKit Go.Lib Go.Sort
theorem b3U(A:Lcs)(S:Std){w:World}(W:World)(hC:CapS A S)(h:Below w.heap.size w W)(hI:StI 0 w.heap.size w A S):
  Calls Try.prog 6 #[.agg (stV A S).toArray] W fun e w'=> ∃A',e= .returned (.agg (stV A' (a5m S)).toArray)∧StX w.heap.size (W.heap.size+1) w' A' (a5m S)∧Below W.heap.size W w':=
 b7W A S W hC h.size (hI.kp (a5U (Nat.le_refl _) h))
theorem a8p(A B:Lcs)(S T:Std)(w:World)(hS:Bd S)(hT:Bd T)(oS:Bo S)(oT:Bo T)(hA:StI 0 w.heap.size w A S)(hB:StI 0 w.heap.size w B T):
  Calls Try.prog 13 #[.agg (stV A S).toArray,.agg (stV B T).toArray] w fun e w'=>e= .returned (.bool (decide (a6t (nam (ord S)) S=a6t (nam (ord T)) T)))∧Below w.heap.size w w':=by
 refine b6J a1L rfl Try.func13 b9l b9h A B S T (a6t (nam (ord S)) S) (a6t (nam (ord T)) T) _ w ?_ ?_ ?_
 ·exact fun W h=>(a7N A S W hS oS h.size (hA.kp (a5U (Nat.le_refl _) h))).mono fun e w' ⟨A',h1,h2,h3⟩=>⟨A',h1,h2.mono (Nat.zero_le _) (Nat.le_refl _),h3⟩
 ·exact fun W h=>(a7N B T W hT oT h.size (hB.kp (a5U (Nat.le_refl _) h))).mono fun e w' ⟨A',h1,h2,h3⟩=>⟨A',h1,h2.mono (Nat.zero_le _) (Nat.le_refl _),h3⟩
 ·intro A' B' W h1 h2
  refine(b4F A' B' _ _ W (b5R hS _) (Nat.le_refl _) (Nat.le_refl _) h1 h2).mono ?_
  rintro e w' ⟨rfl,g⟩
  exact⟨rfl,a3k g⟩
theorem a6q(works: ∀W,Calls Try.prog 12 #[] W fun e w'=>e= .returned (.bool true)∧Below W.heap.size W w')(A B:Lcs)(S T:Std)(w:World)(hCA:CapS A S)(hCB:CapS B T)(hES:SmE S)(hET:SmE T)(hA:StI 0 w.heap.size w A S)(hB:StI 0 w.heap.size w B T):
  Calls Try.prog 4 #[.agg (stV A S).toArray,.agg (stV B T).toArray] w fun e w'=>e= .returned (.bool true)∧Below w.heap.size w w':=by
 have bS:=b5S hES
 have bT:=b5S hET
 have oS:=b5Q S
 have oT:=b5Q T
 refine b3y a1L rfl rfl Try.func4 en6 en9 b9k b9j b9i A B S T (a5m S) (a5m T) (a6t (nam (ord (a5m S))) (a5m S)) (a6t (nam (ord (a5m T))) (a5m T)) (decide (a6t (nam (ord (a5m S))) (a5m S)=a6t (nam (ord (a5m T))) (a5m T))) w ?_ ?_ ?_ ?_ ?_ ?_ ?_ works
 ·exact fun W h=>b3U A S W hCA h hA
 ·exact fun W h=>b3U B T W hCB h hB
 ·exact fun A B W h1 h2=>a8p A B _ _ W bS bT oS oT h1 h2
 ·intro A B W h1 h2
  refine(a8p A B _ _ W bS bS oS oS h1 h2).mono ?_
  rintro e w' ⟨rfl,g⟩
  exact⟨by rw[decide_eq_true rfl],g⟩
 ·exact fun A W h=>(a7J A (a5m S) W bS oS (Nat.le_refl _) h).mono fun e w' ⟨A',h1,h2,h3⟩=>⟨A',h1,h2.mono (Nat.zero_le _) (Nat.le_refl _),h3⟩
 ·exact fun A W h=>(a7J A (a5m T) W bT oT (Nat.le_refl _) h).mono fun e w' ⟨A',h1,h2,h3⟩=>⟨A',h1,h2.mono (Nat.zero_le _) (Nat.le_refl _),h3⟩
 ·intro A A' W h h'
  refine(b4C A A' _ _ W (b5R bS _) (Nat.le_refl _) (Nat.le_refl _) h h').mono ?_
  rintro e w' ⟨rfl,g⟩
  exact⟨rfl,a3k g⟩
end Go.Proofs.Ytcblehiddfnafaa.canonSame
