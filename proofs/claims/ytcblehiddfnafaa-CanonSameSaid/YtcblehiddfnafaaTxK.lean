/-
  Chapter 28: the answer's comparison of objects, walked.
-/
import Derived.Test.YtcblehiddfnafaaTxJ
namespace Go.Proofs.Ytcblehiddfnafaa.canonSame
open Go.Shelf Go.RowKit Go.Lib Go.Sort
theorem a1Q{C:List Value→List Value→Prop}(h: ∀a0 a1 a2 a3 a4 a5 a6 a7 a8 a9 a10 a11 a12 a13 a14 a15 a16 a17 a18 a19 a20 a21 a22 a23 a24 a25 a26 a27 a28 a29 a30 a31 a32 a33 a34 a35 a36 a37 a38 a39 a40 a41 a42 a43 a44 a45 a46 a47 a48 a49 a50 a51 a52 a53 a54 a55 a56 a57 a58 a59 a60 a61 a62 a63 a64 a65 a66 a67 a68 a69 a70 a71 a72 a73 a74 a75 a76 a77 a78 a79 a80 a81 a82 a83 a84 a85 a86 a87 a88 a89 a90 a91 a92 a93 a94 a95 a96 b0 b1 b2 b3 b4 b5 b6 b7 b8 b9 b10 b11 b12 b13 b14 b15 b16 b17,C [a0,a1,a2,a3,a4,a5,a6,a7,a8,a9,a10,a11,a12,a13,a14,a15,a16,a17,a18,a19,a20,a21,a22,a23,a24,a25,a26,a27,a28,a29,a30,a31,a32,a33,a34,a35,a36,a37,a38,a39,a40,a41,a42,a43,a44,a45,a46,a47,a48,a49,a50,a51,a52,a53,a54,a55,a56,a57,a58,a59,a60,a61,a62,a63,a64,a65,a66,a67,a68,a69,a70,a71,a72,a73,a74,a75,a76,a77,a78,a79,a80,a81,a82,a83,a84,a85,a86,a87,a88,a89,a90,a91,a92,a93,a94,a95,a96] [b0,b1,b2,b3,b4,b5,b6,b7,b8,b9,b10,b11,b12,b13,b14,b15,b16,b17]):∀us (_:us.length=97) us' (_:us'.length=18),C us us':=fun us hu us' hu'=>by
 rw[a4c us hu,a4c us' hu']
 exact h ..
theorem RowsI.ld{lo hi:Nat}{w:World}{a:Option Addr}{k:Nat}{α:Type}{l:List α}{f:α→List Value}(P:Program)(h:RowsI lo hi w a k (l.map fun x=>(f x).toArray)){i:Nat}(hi':i<l.length)(hf:(f l[i]).length=k): ∃B O,a=some ⟨B,O,none⟩∧ ∀W,Kp lo hi w W→Sem.run P (loadCellsFrom ⟨B,O+i*k,none⟩ 0 k #[]) W= .ok (f l[i]).toArray W:=by
 rcases h with h|⟨B,O,e,h1,h2,h⟩
 ·rw[List.map_eq_nil_iff.1 h]at hi'
  simp at hi'
 ·refine⟨B,O,e,fun W hW=> ?_⟩
  have:=run_loadCellsFrom_list P W ⟨B,O+i*k,none⟩ (f l[i]) k hf fun j v hv=>by
   rw[Addr.add_lit,hW.cell (by exact h1) (by exact h2)]
   exact h i (f l[i]).toArray (by simp[hi']) j v (by simpa using hv)
  exact this
set_option maxHeartbeats 32000000 in
set_option maxRecDepth 100000 in
theorem a6x{P:Program}{k29 k31 k41 k43 k45 k66 k97:Nat}{y29 y31 y41 y43 y45 y66 y97:List Value}(L:LayS P k29 k31 k41 k43 k45 k66 k97 y29 y31 y41 y43 y45 y66 y97)(hk0: ¬k29=0)(hk97:k97=4)(hk:k41=14)(hy3:y41.length=k41)(f28:P.funcs[28]? =some Try.f28)
  (ne97: ∀(x y:Efd) (W:World),Sem.run P (binOp .neq 97 (.agg (efV x).toArray) (.agg (efV y).toArray)) W= .ok (.bool (!(decide (x=y)))) W)
  (g97: ∀s t (xs ys:Array Value) W,Sem.run P (eqGuard .neq 97 s t (.agg xs) (.agg ys)) W= .ok () W)
  (l m:List Obd) (A B':Loc) (w:World) {lo hh lo' hh':Nat} (hl:l.length≤900) (hin: ∀x∈l,x.effs.length≤maxLen) (h1:hh≤w.heap.size) (h2:hh'≤w.heap.size) (hA:b1P lo hh w A l) (hB:b1P lo' hh' w B' m):
  Calls P 28 #[.slice A.a l.length A.c,.slice B'.a m.length B'.c] w fun e w'=>e= .returned (.bool (decide (l=m)))∧Gr w w':=by
 have mixed:=L.mixed;have t3:=L.t3;have a3:=L.a3;have z3:=L.z3;have v3:=L.v3;have qu3:=run_underlying L.t3;have t4:=L.t4;have a4:=L.a4;have z4:=L.z4;have t23:=L.t23;have a23:=L.a23;have z23:=L.z23;have qu23:=run_underlying L.t23;have t39:=L.t39;have a39:=L.a39;have z39:=L.z39;have qu39:=run_underlying L.t39;have qu41:=run_underlying L.t41;have a41:=L.a41;have z41:=L.z41;have v41:=L.v41;have qu97:=run_underlying L.t97;have a97:=L.a97;have z97:=L.z97
 have HA:Aside (b1P lo hh w A l):=hA
 have HB:Aside (b1P lo' hh' w B' m):=hB
 have H1:Aside _:=h1
 have H2:Aside _:=h2
 have G0:Aside (Gr w w):=Gr.refl w
 have HIN:Aside _:=hin
 have HK:Hid (k41=14):=hk
 have HK97:Hid (k97=4):=hk97
 have kb97: ¬k97=0:=by omega
 have NE:Aside _:=ne97
 have kb1: ¬16777216<k41:=by omega
 have kb2: ¬k41=0:=by omega
 generalize hAa:A.a=aa
 generalize hBa:B'.a=ba
 generalize hAc:A.c=ac
 generalize hBc:B'.c=bc
 have HAA:Hid _:=hAa
 have HBA:Hid _:=hBa
 clear hA hB h1 h2 hin hAa hBa hAc hBc hk hk97 ne97
 by_cases hlm:l.length=m.length
 ·rw[←hlm]
  have HLM:Hid _:=hlm
  clear hlm
  go_enter f28,Try.ntmps28
  go_wp2
  go_loopg [5] l.length (fun kx s5 wr=> ∃i:Nat,s5= .int .i64 i∧i≤l.length∧l.length-i≤kx∧Hid (l.take i=m.take i)∧Aside (Gr w wr))
  case atStart=>exact⟨0,rfl,Nat.zero_le _,Nat.le_refl _,Eq.refl _,G0⟩
  case round=>
   clear G0
   obtain⟨i,rfl,hi,hkx,HT,G1⟩:=hrel
   have wj:IntKind.i64.wrap ((i:Int)+1)=(i:Int)+1:=by rw[IntKind.wrap_i64];omega
   by_cases hlt:i<l.length
   ·have hltz:(i:Int)<(l.length:Int):=by omega
    have hlm2:i<m.length:=by rw[←HLM.out];exact hlt
    obtain⟨B,O,hg,_,_,ca⟩:=HA.out.ld P hlt rfl
    obtain⟨B2,O2,hg',_,_,cb⟩:=HB.out.ld P hlm2 rfl
    rw[HAA.out]at hg
    rw[HBA.out]at hg'
    subst hg hg'
    have ra:=HA.out.e i _ (List.getElem?_eq_getElem hlt)
    have rb:=HB.out.e i _ (List.getElem?_eq_getElem hlm2)
    have lx:=HIN.out _ (List.getElem_mem hlt)
    obtain⟨x,hx⟩: ∃x,l[i]=x:=⟨_,rfl⟩
    obtain⟨y,hy⟩: ∃y,m[i]=y:=⟨_,rfl⟩
    rw[hx]at ca ra lx
    rw[hy]at cb rb
    have HX:Hid _:=hx
    have HY:Hid _:=hy
    have RA:Aside (RowsI lo hh w (A.ad i) 4 (x.effs.map fun e=>(efV e).toArray)):=ra
    have RB:Aside (RowsI lo' hh' w (B'.ad i) 4 (y.effs.map fun e=>(efV e).toArray)):=rb
    have lX: ∀W,Gr wr W→Sem.run P (loadCellsFrom ⟨B,O+i*k41,none⟩ 0 k41 #[]) W= .ok (obV x (.slice (A.ad i) x.effs.length (A.cp i))).toArray W:=fun W hW=>by rw[HK.out];exact ca W (Kp.gr (G1.out.trans hW) H1.out)
    have lY: ∀W,Gr wr W→Sem.run P (loadCellsFrom ⟨B2,O2+i*k41,none⟩ 0 k41 #[]) W= .ok (obV y (.slice (B'.ad i) y.effs.length (B'.cp i))).toArray W:=fun W hW=>by rw[HK.out];exact cb W (Kp.gr (G1.out.trans hW) H2.out)
    have x01:=a1P x (.slice (A.ad i) x.effs.length (A.cp i)) rfl
    have y01:=a1P y (.slice (B'.ad i) y.effs.length (B'.cp i)) rfl
    generalize hX0:obV x (.slice (A.ad i) x.effs.length (A.cp i))=X0 at lX x01
    generalize hY0:obV y (.slice (B'.ad i) y.effs.length (B'.cp i))=Y0 at lY y01
    have LX:Aside _:=lX
    have LY:Aside _:=lY
    have HX0:Hid _:=hX0
    have HY0:Hid _:=hY0
    have x0l:X0.length=k41:=by rw[HK.out,←hX0];rfl
    have y0l:Y0.length=k41:=by rw[HK.out,←hY0];rfl
    clear hx hy ca cb ra rb lX lY hX0 hY0
    go_upto_region 6 with fail
    go_cut [6,7]from 20 to 143 (fun s6 s7 wc=> ∃b6 b7:Nat,s6= .pointer (some ⟨b6,0,none⟩)∧s7= .pointer (some ⟨b7,0,none⟩)∧Aside (Gr wr wc)∧Aside (wc.heap[b6]? =some (.cells X0.toArray 41))∧Aside (wc.heap[b7]? =some (.cells Y0.toArray 41)))
    case first=>
     have OB0:Gr wr wr.drew:=(Gr.refl _).drew
     refine wp_region_held_drew (S:=fun W=>Gr wr W) mixed OB0 (fun hHeld=> ?_)
     generalize wr.drew=U at OB0 hHeld ⊢
     refine wtk (i:=0) (v:=.slice (some ⟨B,O,none⟩) l.length ac) hHeld ?_ ?_
     ·intro W hW
      clear hW hHeld OB0
      go_simp
     simp only[Act.put,px]
     refine wtk (i:=1) (v:=.int .i64 i) hHeld ?_ ?_
     ·intro W hW
      clear hW hHeld OB0
      go_simp
     simp only[Act.put,px]
     refine wtk (i:=2) (v:=.pointer (some ⟨B,O+i*k41,none⟩)) hHeld ?_ ?_
     ·intro W hW
      clear hW hHeld OB0
      go_simp
     simp only[Act.put,px]
     refine wtk (i:=3) (v:=.agg X0.toArray) hHeld ?_ ?_
     ·intro W hW
      have lX:=LX.out W hW
      clear hW hHeld OB0
      go_simp
     simp only[Act.put,px]
     refine wtk (i:=4) (v:=.slice (some ⟨B2,O2,none⟩) l.length bc) hHeld ?_ ?_
     ·intro W hW
      clear hW hHeld OB0
      go_simp
     simp only[Act.put,px]
     refine wtk (i:=5) (v:=.int .i64 i) hHeld ?_ ?_
     ·intro W hW
      clear hW hHeld OB0
      go_simp
     simp only[Act.put,px]
     refine wtk (i:=6) (v:=.pointer (some ⟨B2,O2+i*k41,none⟩)) hHeld ?_ ?_
     ·intro W hW
      clear hW hHeld OB0
      go_simp
     simp only[Act.put,px]
     refine wtk (i:=7) (v:=.agg Y0.toArray) hHeld ?_ ?_
     ·intro W hW
      have lY:=LY.out W hW
      clear hW hHeld OB0
      go_simp
     simp only[Act.put,px]
     obtain⟨ga,ha1,ha2⟩:=b3Z U y41 X0 Y0 41 (x0l.trans hy3.symm) (y0l.trans hy3.symm)
     obtain⟨gb,hb1,hb2⟩:=b0m U y41 X0 Y0 41 (x0l.trans hy3.symm) (y0l.trans hy3.symm)
     have GA:Aside (Gr U _):=ga
     have HA1:Aside _:=ha1
     have HA2:Aside _:=ha2
     have GB:Aside (Gr U _):=gb
     have HB1:Aside _:=hb1
     have HB2:Aside _:=hb2
     obtain⟨gz,hz1,hz2⟩:=a0W U y41 y41 41 41
     have sa1:=a0P P (a0A hz1) X0 (x0l.trans hy3.symm) x01
     have sa2:=a0P P (a0A ((a0R (b:=U.heap.size+1) (c:=U.heap.size) (by omega) X0 0).trans hz2)) Y0 (y0l.trans hy3.symm) y01
     have sb1:=a0P P (a0A hz2) X0 (x0l.trans hy3.symm) x01
     have sb2:=a0P P (a0A ((a0R (b:=U.heap.size) (c:=U.heap.size+1) (by omega) X0 0).trans hz1)) Y0 (y0l.trans hy3.symm) y01
     have g1:Gr wr (U.alloc (.cells y41.toArray 41)):=OB0.alloc _
     have g2:Gr wr ((U.alloc (.cells y41.toArray 41)).alloc (.cells y41.toArray 41)):=g1.alloc _
     have ga3:=Gr.sets (W:=(U.alloc (.cells y41.toArray 41)).alloc (.cells y41.toArray 41)) U.heap.size OB0.le X0 0 g2
     have gb3:=Gr.sets (W:=(U.alloc (.cells y41.toArray 41)).alloc (.cells y41.toArray 41)) (U.heap.size+1) (Nat.le_succ_of_le OB0.le) X0 0 g2
     clear ga ha1 ha2 gb hb1 hb2 gz hz1 hz2
     refine wpAnyH_ready (rs:=[8,9]) (by kernel_rfl) (by simp) ?_
     refine AllReadyH.cons rfl (fun K hK=> ?_) (AllReadyH.cons rfl (fun K hK=> ?_) AllReadyH.nil)
     ·go_simp
      refine hK.out _ _ g1 (fun hHeld=> ?_)
      clear hK K
      refine wrd 9 fun K hK=> ?_
      go_simp
      refine hK.out _ _ g2 (fun hHeld=> ?_)
      clear hK K
      refine wrd 10 fun K hK=> ?_
      go_simp
      refine hK.out _ _ ga3 (fun hHeld=> ?_)
      clear hK K
      refine wrd 11 fun K hK=> ?_
      go_simp
      refine hK.out _ _ (OB0.trans GA.out) (fun hHeld=> ?_)
      clear hK K
      refine wpAnyH_done (by kernel_rfl) ?_ _
      have OBM:Aside (Gr wr U):=OB0
      clear OB0
      go_wp2
      go_meet
      case rel=>exact⟨_,_,rfl,rfl,OBM.out.trans GA.out,HA1.out,HA2.out⟩
     ·go_simp
      refine hK.out _ _ g1 (fun hHeld=> ?_)
      clear hK K
      refine wrd 8 fun K hK=> ?_
      go_simp
      refine hK.out _ _ g2 (fun hHeld=> ?_)
      clear hK K
      refine wrd 10 fun K hK=> ?_
      go_simp
      refine hK.out _ _ gb3 (fun hHeld=> ?_)
      clear hK K
      refine wrd 11 fun K hK=> ?_
      go_simp
      refine hK.out _ _ (OB0.trans GB.out) (fun hHeld=> ?_)
      clear hK K
      refine wpAnyH_done (by kernel_rfl) ?_ _
      have OBM:Aside (Gr wr U):=OB0
      clear OB0
      go_wp2
      go_meet
      case rel=>exact⟨_,_,rfl,rfl,OBM.out.trans GB.out,HB1.out,HB2.out⟩
    case rest=>
     obtain⟨b6,b7,rfl,rfl,G2,J6,J7⟩:=hcut
     have G3:Aside (Gr w wc):=G1.out.trans G2.out
     clear LX LY x01 y01
     obtain⟨x0,x1,x2,x3,x4,x5,x6,x7,x8,x9,x10,x11,x12,xt⟩:=x
     obtain⟨y0,y1,y2,y3,y4,y5,y6,y7,y8,y9,y10,y11,y12,yt⟩:=y
     have RA2:Aside (RowsI lo hh w (A.ad i) 4 (xt.map fun e=>(efV e).toArray)):=RA.out
     have RB2:Aside (RowsI lo' hh' w (B'.ad i) 4 (yt.map fun e=>(efV e).toArray)):=RB.out
     have LXT:Aside (xt.length≤maxLen):=lx
     clear RA RB lx
     have HX0':Aside (X0[13]? =some (.slice (A.ad i) xt.length (A.cp i))):=by rw[←HX0.out];rfl
     have HY0':Aside (Y0[13]? =some (.slice (B'.ad i) yt.length (B'.cp i))):=by rw[←HY0.out];rfl
     have J6c:wc.heap[b6]? =some (.cells ([Value.int .i64 x0,Value.int .i64 x1,Value.int .i64 x2,Value.int .i64 x3,Value.int .i64 x4,Value.bool x5,Value.bool x6,Value.bool x7,Value.int .i64 x8,Value.int .i64 x9,Value.int .i64 x10,Value.int .i64 x11,Value.bool x12,.slice (A.ad i) xt.length (A.cp i)]:List Value).toArray 41):=by have:=J6.out;rw[←HX0.out]at this;exact this
     have J7c:wc.heap[b7]? =some (.cells ([Value.int .i64 y0,Value.int .i64 y1,Value.int .i64 y2,Value.int .i64 y3,Value.int .i64 y4,Value.bool y5,Value.bool y6,Value.bool y7,Value.int .i64 y8,Value.int .i64 y9,Value.int .i64 y10,Value.int .i64 y11,Value.bool y12,.slice (B'.ad i) yt.length (B'.cp i)]:List Value).toArray 41):=by have:=J7.out;rw[←HY0.out]at this;exact this
     have CC:Aside _:=a3Q J6c J7c
     clear HX0 HY0 x0l y0l J6c J7c
     go_upto_region 7 with fail
     cases q0:(x0 !=y0)with
     |true=>
      refine a0F (pfS L hk0) CC.out [(6,.ptr 0 0),(7,.ptr 1 0)] [true] 28 125 (cmps:=[.int false x0 y0 true]) (v:=.bool true) (by kernel_rfl) (fun k s h=>by rcases a1C h with⟨rfl,rfl⟩|⟨rfl,rfl⟩<;>rfl) ⟨q0,trivial⟩ rfl rfl (a1Q ?_)
      intros
      simp only[List.take_succ_cons,List.take_zero,List.cons_append,List.nil_append]
      have HQ:Hid _:=q0
      clear q0
      go_wp2
      go_returns
      refine⟨?_,G3.out⟩
      rw[decide_eq_false]
      ·rfl
      ·refine a1J hlt hlm2 ?_
       rw[HX.out,HY.out]
       have:=HQ.out
       intro h
       injection h with e0 e1 e2 e3 e4 e5 e6 e7 e8 e9 e10 e11 e12 e13
       rw[e0]at this
       simp at this
     |false=>
      cases q1:(x1 !=y1)with
      |true=>
       refine a0F (pfS L hk0) CC.out [(6,.ptr 0 0),(7,.ptr 1 0)] [false,true] 28 125 (cmps:=[.int false x1 y1 true,.int false x0 y0 false]) (v:=.bool true) (by kernel_rfl) (fun k s h=>by rcases a1C h with⟨rfl,rfl⟩|⟨rfl,rfl⟩<;>rfl) ⟨q1,q0,trivial⟩ rfl rfl (a1Q ?_)
       intros
       simp only[List.take_succ_cons,List.take_zero,List.cons_append,List.nil_append]
       have HQ:Hid _:=q1
       clear q0 q1
       go_wp2
       go_returns
       refine⟨?_,G3.out⟩
       rw[decide_eq_false]
       ·rfl
       ·refine a1J hlt hlm2 ?_
        rw[HX.out,HY.out]
        have:=HQ.out
        intro h
        injection h with e0 e1 e2 e3 e4 e5 e6 e7 e8 e9 e10 e11 e12 e13
        rw[e1]at this
        simp at this
      |false=>
       cases q2:(x2 !=y2)with
       |true=>
        refine a0F (pfS L hk0) CC.out [(6,.ptr 0 0),(7,.ptr 1 0)] [false,false,true] 28 125 (cmps:=[.int false x2 y2 true,.int false x1 y1 false,.int false x0 y0 false]) (v:=.bool true) (by kernel_rfl) (fun k s h=>by rcases a1C h with⟨rfl,rfl⟩|⟨rfl,rfl⟩<;>rfl) ⟨q2,q1,q0,trivial⟩ rfl rfl (a1Q ?_)
        intros
        simp only[List.take_succ_cons,List.take_zero,List.cons_append,List.nil_append]
        have HQ:Hid _:=q2
        clear q0 q1 q2
        go_wp2
        go_returns
        refine⟨?_,G3.out⟩
        rw[decide_eq_false]
        ·rfl
        ·refine a1J hlt hlm2 ?_
         rw[HX.out,HY.out]
         have:=HQ.out
         intro h
         injection h with e0 e1 e2 e3 e4 e5 e6 e7 e8 e9 e10 e11 e12 e13
         rw[e2]at this
         simp at this
       |false=>
        cases q3:(x3 !=y3)with
        |true=>
         refine a0F (pfS L hk0) CC.out [(6,.ptr 0 0),(7,.ptr 1 0)] [false,false,false,true] 28 125 (cmps:=[.int false x3 y3 true,.int false x2 y2 false,.int false x1 y1 false,.int false x0 y0 false]) (v:=.bool true) (by kernel_rfl) (fun k s h=>by rcases a1C h with⟨rfl,rfl⟩|⟨rfl,rfl⟩<;>rfl) ⟨q3,q2,q1,q0,trivial⟩ rfl rfl (a1Q ?_)
         intros
         simp only[List.take_succ_cons,List.take_zero,List.cons_append,List.nil_append]
         have HQ:Hid _:=q3
         clear q0 q1 q2 q3
         go_wp2
         go_returns
         refine⟨?_,G3.out⟩
         rw[decide_eq_false]
         ·rfl
         ·refine a1J hlt hlm2 ?_
          rw[HX.out,HY.out]
          have:=HQ.out
          intro h
          injection h with e0 e1 e2 e3 e4 e5 e6 e7 e8 e9 e10 e11 e12 e13
          rw[e3]at this
          simp at this
        |false=>
         cases q4:(x4 !=y4)with
         |true=>
          refine a0F (pfS L hk0) CC.out [(6,.ptr 0 0),(7,.ptr 1 0)] [false,false,false,false,true] 28 125 (cmps:=[.int false x4 y4 true,.int false x3 y3 false,.int false x2 y2 false,.int false x1 y1 false,.int false x0 y0 false]) (v:=.bool true) (by kernel_rfl) (fun k s h=>by rcases a1C h with⟨rfl,rfl⟩|⟨rfl,rfl⟩<;>rfl) ⟨q4,q3,q2,q1,q0,trivial⟩ rfl rfl (a1Q ?_)
          intros
          simp only[List.take_succ_cons,List.take_zero,List.cons_append,List.nil_append]
          have HQ:Hid _:=q4
          clear q0 q1 q2 q3 q4
          go_wp2
          go_returns
          refine⟨?_,G3.out⟩
          rw[decide_eq_false]
          ·rfl
          ·refine a1J hlt hlm2 ?_
           rw[HX.out,HY.out]
           have:=HQ.out
           intro h
           injection h with e0 e1 e2 e3 e4 e5 e6 e7 e8 e9 e10 e11 e12 e13
           rw[e4]at this
           simp at this
         |false=>
          cases q5:(x5 !=y5)with
          |true=>
           refine a0F (pfS L hk0) CC.out [(6,.ptr 0 0),(7,.ptr 1 0)] [false,false,false,false,false,true] 28 125 (cmps:=[.bool false x5 y5 true,.int false x4 y4 false,.int false x3 y3 false,.int false x2 y2 false,.int false x1 y1 false,.int false x0 y0 false]) (v:=.bool true) (by kernel_rfl) (fun k s h=>by rcases a1C h with⟨rfl,rfl⟩|⟨rfl,rfl⟩<;>rfl) ⟨q5,q4,q3,q2,q1,q0,trivial⟩ rfl rfl (a1Q ?_)
           intros
           simp only[List.take_succ_cons,List.take_zero,List.cons_append,List.nil_append]
           have HQ:Hid _:=q5
           clear q0 q1 q2 q3 q4 q5
           go_wp2
           go_returns
           refine⟨?_,G3.out⟩
           rw[decide_eq_false]
           ·rfl
           ·refine a1J hlt hlm2 ?_
            rw[HX.out,HY.out]
            have:=HQ.out
            intro h
            injection h with e0 e1 e2 e3 e4 e5 e6 e7 e8 e9 e10 e11 e12 e13
            rw[e5]at this
            simp at this
          |false=>
           cases q6:(x6 !=y6)with
           |true=>
            refine a0F (pfS L hk0) CC.out [(6,.ptr 0 0),(7,.ptr 1 0)] [false,false,false,false,false,false,true] 28 125 (cmps:=[.bool false x6 y6 true,.bool false x5 y5 false,.int false x4 y4 false,.int false x3 y3 false,.int false x2 y2 false,.int false x1 y1 false,.int false x0 y0 false]) (v:=.bool true) (by kernel_rfl) (fun k s h=>by rcases a1C h with⟨rfl,rfl⟩|⟨rfl,rfl⟩<;>rfl) ⟨q6,q5,q4,q3,q2,q1,q0,trivial⟩ rfl rfl (a1Q ?_)
            intros
            simp only[List.take_succ_cons,List.take_zero,List.cons_append,List.nil_append]
            have HQ:Hid _:=q6
            clear q0 q1 q2 q3 q4 q5 q6
            go_wp2
            go_returns
            refine⟨?_,G3.out⟩
            rw[decide_eq_false]
            ·rfl
            ·refine a1J hlt hlm2 ?_
             rw[HX.out,HY.out]
             have:=HQ.out
             intro h
             injection h with e0 e1 e2 e3 e4 e5 e6 e7 e8 e9 e10 e11 e12 e13
             rw[e6]at this
             simp at this
           |false=>
            cases q7:(x7 !=y7)with
            |true=>
             refine a0F (pfS L hk0) CC.out [(6,.ptr 0 0),(7,.ptr 1 0)] [false,false,false,false,false,false,false,true] 28 125 (cmps:=[.bool false x7 y7 true,.bool false x6 y6 false,.bool false x5 y5 false,.int false x4 y4 false,.int false x3 y3 false,.int false x2 y2 false,.int false x1 y1 false,.int false x0 y0 false]) (v:=.bool true) (by kernel_rfl) (fun k s h=>by rcases a1C h with⟨rfl,rfl⟩|⟨rfl,rfl⟩<;>rfl) ⟨q7,q6,q5,q4,q3,q2,q1,q0,trivial⟩ rfl rfl (a1Q ?_)
             intros
             simp only[List.take_succ_cons,List.take_zero,List.cons_append,List.nil_append]
             have HQ:Hid _:=q7
             clear q0 q1 q2 q3 q4 q5 q6 q7
             go_wp2
             go_returns
             refine⟨?_,G3.out⟩
             rw[decide_eq_false]
             ·rfl
             ·refine a1J hlt hlm2 ?_
              rw[HX.out,HY.out]
              have:=HQ.out
              intro h
              injection h with e0 e1 e2 e3 e4 e5 e6 e7 e8 e9 e10 e11 e12 e13
              rw[e7]at this
              simp at this
            |false=>
             cases q8:(x8 !=y8)with
             |true=>
              refine a0F (pfS L hk0) CC.out [(6,.ptr 0 0),(7,.ptr 1 0)] [false,false,false,false,false,false,false,false,true] 28 125 (cmps:=[.int false x8 y8 true,.bool false x7 y7 false,.bool false x6 y6 false,.bool false x5 y5 false,.int false x4 y4 false,.int false x3 y3 false,.int false x2 y2 false,.int false x1 y1 false,.int false x0 y0 false]) (v:=.bool true) (by kernel_rfl) (fun k s h=>by rcases a1C h with⟨rfl,rfl⟩|⟨rfl,rfl⟩<;>rfl) ⟨q8,q7,q6,q5,q4,q3,q2,q1,q0,trivial⟩ rfl rfl (a1Q ?_)
              intros
              simp only[List.take_succ_cons,List.take_zero,List.cons_append,List.nil_append]
              have HQ:Hid _:=q8
              clear q0 q1 q2 q3 q4 q5 q6 q7 q8
              go_wp2
              go_returns
              refine⟨?_,G3.out⟩
              rw[decide_eq_false]
              ·rfl
              ·refine a1J hlt hlm2 ?_
               rw[HX.out,HY.out]
               have:=HQ.out
               intro h
               injection h with e0 e1 e2 e3 e4 e5 e6 e7 e8 e9 e10 e11 e12 e13
               rw[e8]at this
               simp at this
             |false=>
              cases q9:(x9 !=y9)with
              |true=>
               refine a0F (pfS L hk0) CC.out [(6,.ptr 0 0),(7,.ptr 1 0)] [false,false,false,false,false,false,false,false,false,true] 28 125 (cmps:=[.int false x9 y9 true,.int false x8 y8 false,.bool false x7 y7 false,.bool false x6 y6 false,.bool false x5 y5 false,.int false x4 y4 false,.int false x3 y3 false,.int false x2 y2 false,.int false x1 y1 false,.int false x0 y0 false]) (v:=.bool true) (by kernel_rfl) (fun k s h=>by rcases a1C h with⟨rfl,rfl⟩|⟨rfl,rfl⟩<;>rfl) ⟨q9,q8,q7,q6,q5,q4,q3,q2,q1,q0,trivial⟩ rfl rfl (a1Q ?_)
               intros
               simp only[List.take_succ_cons,List.take_zero,List.cons_append,List.nil_append]
               have HQ:Hid _:=q9
               clear q0 q1 q2 q3 q4 q5 q6 q7 q8 q9
               go_wp2
               go_returns
               refine⟨?_,G3.out⟩
               rw[decide_eq_false]
               ·rfl
               ·refine a1J hlt hlm2 ?_
                rw[HX.out,HY.out]
                have:=HQ.out
                intro h
                injection h with e0 e1 e2 e3 e4 e5 e6 e7 e8 e9 e10 e11 e12 e13
                rw[e9]at this
                simp at this
              |false=>
               cases q10:(x10 !=y10)with
               |true=>
                refine a0F (pfS L hk0) CC.out [(6,.ptr 0 0),(7,.ptr 1 0)] [false,false,false,false,false,false,false,false,false,false,true] 28 125 (cmps:=[.int false x10 y10 true,.int false x9 y9 false,.int false x8 y8 false,.bool false x7 y7 false,.bool false x6 y6 false,.bool false x5 y5 false,.int false x4 y4 false,.int false x3 y3 false,.int false x2 y2 false,.int false x1 y1 false,.int false x0 y0 false]) (v:=.bool true) (by kernel_rfl) (fun k s h=>by rcases a1C h with⟨rfl,rfl⟩|⟨rfl,rfl⟩<;>rfl) ⟨q10,q9,q8,q7,q6,q5,q4,q3,q2,q1,q0,trivial⟩ rfl rfl (a1Q ?_)
                intros
                simp only[List.take_succ_cons,List.take_zero,List.cons_append,List.nil_append]
                have HQ:Hid _:=q10
                clear q0 q1 q2 q3 q4 q5 q6 q7 q8 q9 q10
                go_wp2
                go_returns
                refine⟨?_,G3.out⟩
                rw[decide_eq_false]
                ·rfl
                ·refine a1J hlt hlm2 ?_
                 rw[HX.out,HY.out]
                 have:=HQ.out
                 intro h
                 injection h with e0 e1 e2 e3 e4 e5 e6 e7 e8 e9 e10 e11 e12 e13
                 rw[e10]at this
                 simp at this
               |false=>
                cases q11:(x11 !=y11)with
                |true=>
                 refine a0F (pfS L hk0) CC.out [(6,.ptr 0 0),(7,.ptr 1 0)] [false,false,false,false,false,false,false,false,false,false,false,true] 28 125 (cmps:=[.int false x11 y11 true,.int false x10 y10 false,.int false x9 y9 false,.int false x8 y8 false,.bool false x7 y7 false,.bool false x6 y6 false,.bool false x5 y5 false,.int false x4 y4 false,.int false x3 y3 false,.int false x2 y2 false,.int false x1 y1 false,.int false x0 y0 false]) (v:=.bool true) (by kernel_rfl) (fun k s h=>by rcases a1C h with⟨rfl,rfl⟩|⟨rfl,rfl⟩<;>rfl) ⟨q11,q10,q9,q8,q7,q6,q5,q4,q3,q2,q1,q0,trivial⟩ rfl rfl (a1Q ?_)
                 intros
                 simp only[List.take_succ_cons,List.take_zero,List.cons_append,List.nil_append]
                 have HQ:Hid _:=q11
                 clear q0 q1 q2 q3 q4 q5 q6 q7 q8 q9 q10 q11
                 go_wp2
                 go_returns
                 refine⟨?_,G3.out⟩
                 rw[decide_eq_false]
                 ·rfl
                 ·refine a1J hlt hlm2 ?_
                  rw[HX.out,HY.out]
                  have:=HQ.out
                  intro h
                  injection h with e0 e1 e2 e3 e4 e5 e6 e7 e8 e9 e10 e11 e12 e13
                  rw[e11]at this
                  simp at this
                |false=>
                 cases q12:(x12 !=y12)with
                 |true=>
                  refine a0F (pfS L hk0) CC.out [(6,.ptr 0 0),(7,.ptr 1 0)] [false,false,false,false,false,false,false,false,false,false,false,false,true] 28 125 (cmps:=[.bool false x12 y12 true,.int false x11 y11 false,.int false x10 y10 false,.int false x9 y9 false,.int false x8 y8 false,.bool false x7 y7 false,.bool false x6 y6 false,.bool false x5 y5 false,.int false x4 y4 false,.int false x3 y3 false,.int false x2 y2 false,.int false x1 y1 false,.int false x0 y0 false]) (v:=.bool true) (by kernel_rfl) (fun k s h=>by rcases a1C h with⟨rfl,rfl⟩|⟨rfl,rfl⟩<;>rfl) ⟨q12,q11,q10,q9,q8,q7,q6,q5,q4,q3,q2,q1,q0,trivial⟩ rfl rfl (a1Q ?_)
                  intros
                  simp only[List.take_succ_cons,List.take_zero,List.cons_append,List.nil_append]
                  have HQ:Hid _:=q12
                  clear q0 q1 q2 q3 q4 q5 q6 q7 q8 q9 q10 q11 q12
                  go_wp2
                  go_returns
                  refine⟨?_,G3.out⟩
                  rw[decide_eq_false]
                  ·rfl
                  ·refine a1J hlt hlm2 ?_
                   rw[HX.out,HY.out]
                   have:=HQ.out
                   intro h
                   injection h with e0 e1 e2 e3 e4 e5 e6 e7 e8 e9 e10 e11 e12 e13
                   rw[e12]at this
                   simp at this
                 |false=>
                  by_cases q13:xt.length=yt.length
                  ·have hd:((xt.length:Int) !=(yt.length:Int))=false:=by simp[q13]
                   have HQL:Hid _:=q13
                   have HEQ:Hid (∀zt:List Efd,(⟨x0,x1,x2,x3,x4,x5,x6,x7,x8,x9,x10,x11,x12,zt⟩:Obd)=⟨y0,y1,y2,y3,y4,y5,y6,y7,y8,y9,y10,y11,y12,zt⟩):=fun zt=>by rw[a1G q0,a1G q1,a1G q2,a1G q3,a1G q4,a1G q5,a1G q6,a1G q7,a1G q8,a1G q9,a1G q10,a1G q11,a1G q12]
                   clear q13
                   refine a0F (pfS L hk0) CC.out [(6,.ptr 0 0),(7,.ptr 1 0)] [false,false,false,false,false,false,false,false,false,false,false,false,false,false] 28 125 (cmps:=[.int false xt.length yt.length false,.bool false x12 y12 false,.int false x11 y11 false,.int false x10 y10 false,.int false x9 y9 false,.int false x8 y8 false,.bool false x7 y7 false,.bool false x6 y6 false,.bool false x5 y5 false,.int false x4 y4 false,.int false x3 y3 false,.int false x2 y2 false,.int false x1 y1 false,.int false x0 y0 false]) (v:=.bool false) (by kernel_rfl) (fun k s h=>by rcases a1C h with⟨rfl,rfl⟩|⟨rfl,rfl⟩<;>rfl) ⟨hd,q12,q11,q10,q9,q8,q7,q6,q5,q4,q3,q2,q1,q0,trivial⟩ rfl rfl (a1Q ?_)
                   intros
                   simp only[List.take_succ_cons,List.take_zero,List.cons_append,List.nil_append]
                   clear hd q0 q1 q2 q3 q4 q5 q6 q7 q8 q9 q10 q11 q12
                   go_upto_block 2 with fail
                   go_wp2
                   go_loopg [8] xt.length (fun ke s8 wr2=> ∃k:Nat,s8= .int .i64 k∧k≤xt.length∧xt.length-k≤ke∧Hid (xt.take k=yt.take k)∧Aside (Gr wc wr2))
                   case atStart=>exact⟨0,rfl,Nat.zero_le _,Nat.le_refl _,Eq.refl _,Gr.refl _⟩
                   case round=>
                    obtain⟨k,rfl,hk1,hke,HT3,G4⟩:=hrel
                    have wk:IntKind.i64.wrap ((k:Int)+1)=(k:Int)+1∨ ¬k<xt.length:=by
                     by_cases h:k<xt.length
                     ·left
                      rw[IntKind.wrap_i64]
                      have:=LXT.out
                      unfold maxLen at this
                      omega
                     ·exact .inr h
                    have cx13:=a0B (a0A (a0M J6.out G4.out)) HX0'.out
                    have cy13:=a0B (a0A (a0M J7.out G4.out)) HY0'.out
                    have G5:Aside (Gr w wr):=G3.out.trans G4.out
                    rw[←HQL.out]at cy13
                    by_cases hkl:k<xt.length
                    ·have hklz:(k:Int)<(xt.length:Int):=by omega
                     replace wk:=wk.resolve_right (fun h=>h hkl)
                     have hkl2:k<yt.length:=by rw[←HQL.out];exact hkl
                     obtain⟨g,o,hg,ca⟩:=RowsI.ld P RA2.out hkl rfl
                     obtain⟨g',o',hg',cb⟩:=RowsI.ld P RB2.out hkl2 rfl
                     rw[hg]at cx13
                     rw[hg']at cy13
                     have lx0:=ca wr.drew (Kp.gr G5.out.drew H1.out)
                     have ly0:=cb wr.drew (Kp.gr G5.out.drew H2.out)
                     rw[←HK97.out]at lx0 ly0
                     have nn:=NE.out xt[k] yt[k]
                     obtain⟨b,hb⟩: ∃b,decide (xt[k]=yt[k])=b:=⟨_,rfl⟩
                     rw[hb]at nn
                     have HQ:Hid _:=hb
                     generalize efV xt[k]=X at lx0 nn
                     generalize efV yt[k]=Y at ly0 nn
                     clear hb ca cb hg hg'
                     cases b with
                     |false=>
                      go_wp2
                      go_big_region_o
                      go_wp2
                      go_returns
                      refine⟨?_,G5.out.drew⟩
                      rw[decide_eq_false]
                      ·rfl
                      ·refine a1J hlt hlm2 ?_
                       rw[HX.out,HY.out]
                       intro h
                       injection h with e0 e1 e2 e3 e4 e5 e6 e7 e8 e9 e10 e11 e12 e13
                       have h2:=a1J hkl hkl2 (of_decide_eq_false HQ.out)
                       exact h2 e13
                     |true=>
                      have HT4:Hid (xt.take (k+1)=yt.take (k+1)):=a0m hkl hkl2 HT3.out (of_decide_eq_true HQ.out)
                      go_wp2
                      go_big_region_o
                      go_wp2
                      go_roundg (xt.length-(k+1))
                      case measure=>omega
                      case rel=>exact⟨k+1,by first|rfl|go_num,by omega,Nat.le_refl _,HT4,G4.out.drew⟩
                    ·have hklz: ¬(k:Int)<(xt.length:Int):=by omega
                     obtain rfl:k=xt.length:=by omega
                     have HT2:Hid (l.take (i+1)=m.take (i+1)):=a0m hlt hlm2 HT.out (by rw[HX.out,HY.out,a1F HQL.out HT3.out];exact HEQ.out _)
                     clear wk
                     go_wp2
                     go_roundg (l.length-(i+1))
                     case measure=>omega
                     case rel=>exact⟨i+1,by first|rfl|go_num,by omega,Nat.le_refl _,HT2,G5⟩
                  ·have hd:((xt.length:Int) !=(yt.length:Int))=true:=by simp;omega
                   have HQL:Hid _:=q13
                   clear q13
                   refine a0F (pfS L hk0) CC.out [(6,.ptr 0 0),(7,.ptr 1 0)] [false,false,false,false,false,false,false,false,false,false,false,false,false,true] 28 125 (cmps:=[.int false xt.length yt.length true,.bool false x12 y12 false,.int false x11 y11 false,.int false x10 y10 false,.int false x9 y9 false,.int false x8 y8 false,.bool false x7 y7 false,.bool false x6 y6 false,.bool false x5 y5 false,.int false x4 y4 false,.int false x3 y3 false,.int false x2 y2 false,.int false x1 y1 false,.int false x0 y0 false]) (v:=.bool true) (by kernel_rfl) (fun k s h=>by rcases a1C h with⟨rfl,rfl⟩|⟨rfl,rfl⟩<;>rfl) ⟨hd,q12,q11,q10,q9,q8,q7,q6,q5,q4,q3,q2,q1,q0,trivial⟩ rfl rfl (a1Q ?_)
                   intros
                   simp only[List.take_succ_cons,List.take_zero,List.cons_append,List.nil_append]
                   clear hd q0 q1 q2 q3 q4 q5 q6 q7 q8 q9 q10 q11 q12
                   go_wp2
                   go_returns
                   refine⟨?_,G3.out⟩
                   rw[decide_eq_false]
                   ·rfl
                   ·refine a1J hlt hlm2 ?_
                    rw[HX.out,HY.out]
                    intro h
                    injection h with e0 e1 e2 e3 e4 e5 e6 e7 e8 e9 e10 e11 e12 e13
                    exact HQL.out (by rw[e13])
   ·have hltz: ¬(i:Int)<(l.length:Int):=by omega
    obtain rfl:i=l.length:=by omega
    have HT2:Hid (l=m):=a1F HLM.out HT.out
    go_wp2
    go_returns
    refine⟨?_,G1.out⟩
    rw[decide_eq_true HT2.out]
    rfl
 ·have hn:decide (l=m)=false:=decide_eq_false fun h=>hlm (by rw[h])
  rw[hn]
  have hd:((l.length:Int) !=(m.length:Int))=true:=by simp;omega
  clear hn
  go_enter f28,Try.ntmps28
  go_wp2
  go_returns
  exact⟨rfl,G0.out⟩
end Go.Proofs.Ytcblehiddfnafaa.canonSame
