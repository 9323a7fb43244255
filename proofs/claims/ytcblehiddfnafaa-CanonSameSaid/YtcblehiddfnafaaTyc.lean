/-
  Chapter 28: the library's EqualFunc, walked.
-/
import Derived.Test.YtcblehiddfnafaaTyb
namespace Go.Proofs.Ytcblehiddfnafaa.canonSame
open Go.Shelf Go.RowKit Go.Lib Go.Sort
theorem b0y(x:Itm)(v:Value)(hv:v.oneCell'=true): ∀u∈a0f x v,u.oneCell'=true:=by
 intro u hu
 simp only[a0f,List.mem_cons,List.not_mem_nil,or_false]at hu
 rcases hu with rfl|rfl|rfl|rfl|rfl|rfl|rfl<;>first|rfl|exact hv
set_option maxHeartbeats 8000000 in
set_option maxRecDepth 100000 in
theorem b7x{P:Program}{k29 k31 k41 k43 k45 k66 k97:Nat}{y29 y31 y41 y43 y45 y66 y97:List Value}(L:LayS P k29 k31 k41 k43 k45 k66 k97 y29 y31 y41 y43 y45 y66 y97)(f48:P.funcs[48]? =some Try.f48)(e49: ∀args w,(callFunc 49 args).run P w= .ok (.enter 49 args) w)
  (l m:List (List Int)) (A B':Loc) (w:World) {lo hh lo' hh':Nat} (hl:l.length≤maxLen) (h1:hh≤w.heap.size) (h2:hh'≤w.heap.size) (hA:LstI lo hh w A l) (hB:LstI lo' hh' w B' m)
  (hcb: ∀(x y:List Int) (i:Nat) (U:World),l[i]? =some x→m[i]? =some y→Gr w U→Calls P 49 #[.slice (A.ad i) x.length (A.cp i),.slice (B'.ad i) y.length (B'.cp i)] U fun e w'=>e= .returned (.bool (decide (x=y)))∧Gr U w'):
  Calls P 48 #[.slice A.a l.length A.c,.slice B'.a m.length B'.c,.func (.func 49) #[] #[]] w fun e w'=>e= .returned (.bool (decide (l=m)))∧Gr w w':=by
 have t3:=L.t3;have a3:=L.a3;have z3:=L.z3;have v3:=L.v3;have qu3:=run_underlying L.t3;have t4:=L.t4;have a4:=L.a4;have z4:=L.z4;have t25:=L.t25;have a25:=L.a25;have z25:=L.z25;have qu25:=run_underlying L.t25;have t24:=L.t24;have a24:=L.a24;have z24:=L.z24;have qu24:=run_underlying L.t24
 have HA:Aside (LstI lo hh w A l):=hA
 have HB:Aside (LstI lo' hh' w B' m):=hB
 have H1:Aside _:=h1
 have H2:Aside _:=h2
 have G0:Aside (Gr w w):=Gr.refl w
 have HCB:Aside (∀(x y:List Int) (i:Nat) (U:World),l[i]? =some x→m[i]? =some y→Gr w U→Calls P 49 #[.slice (A.ad i) x.length (A.cp i),.slice (B'.ad i) y.length (B'.cp i)] U fun e w'=>e= .returned (.bool (decide (x=y)))∧Gr U w'):=hcb
 have HL:Aside (l.length≤maxLen):=hl
 have hll:l.length≤9223372036854775807:=hl
 generalize hAa:A.a=aa
 generalize hBa:B'.a=ba
 have HAA:Hid _:=hAa
 have HBA:Hid _:=hBa
 clear hA hB h1 h2 hl hcb hAa hBa
 by_cases hlm:l.length=m.length
 ·rw[←hlm]
  have HLM:Hid _:=hlm
  clear hlm
  go_enter f48,Try.ntmps48
  go_wp2
  go_loopg [17] l.length (fun kx q wr=> ∃i:Nat,q= .int .i64 i∧i≤l.length∧l.length-i≤kx∧Hid (l.take i=m.take i)∧Aside (Gr w wr))
  case atStart=>exact⟨0,rfl,Nat.zero_le _,Nat.le_refl _,Eq.refl _,G0⟩
  case round=>
   clear G0
   obtain⟨i,rfl,hi,hkx,HT,G1⟩:=hrel
   by_cases hlt:i<l.length
   ·have hltz:(i:Int)<(l.length:Int):=by omega
    have wj:IntKind.i64.wrap ((i:Int)+1)=(i:Int)+1:=by rw[IntKind.wrap_i64];omega
    have hlm2:i<m.length:=by rw[←HLM.out];exact hlt
    obtain⟨g,o,hg,ca⟩:=HA.out.rd hlt
    obtain⟨g',o',hg',cb⟩:=HB.out.rd hlm2
    rw[HAA.out]at hg
    rw[HBA.out]at hg'
    subst hg hg'
    have hc0:=HCB.out l[i] m[i] i wr (List.getElem?_eq_getElem hlt) (List.getElem?_eq_getElem hlm2) G1.out
    obtain⟨x,hx⟩: ∃x,l[i]=x:=⟨_,rfl⟩
    obtain⟨y,hy⟩: ∃y,m[i]=y:=⟨_,rfl⟩
    rw[hx]at ca hc0
    rw[hy]at cb hc0
    have HX:Hid _:=hx
    have HY:Hid _:=hy
    have ca2:=ca wr (Kp.gr G1.out H1.out)
    have cb2:=cb wr (Kp.gr G1.out H2.out)
    obtain⟨b,hb⟩: ∃b,decide (x=y)=b:=⟨_,rfl⟩
    rw[hb]at hc0
    have HBb:Hid _:=hb
    clear hx hy ca cb hb
    cases b with
    |false=>
     have HD:Hid (decide (l=m)=false):=decide_eq_false (a1J hlt hlm2 (by rw[HX.out,HY.out];exact of_decide_eq_false HBb.out))
     go_wp2_with (go_at_fn 49;refine Calls.mono hc0 ?_;rintro e w2 ⟨rfl,hg⟩;have G2:Aside (Gr w w2):=G1.out.trans hg;clear hg hc0 ca2 cb2)
     go_returns
     exact⟨by rw[HD.out];rfl,G2.out⟩
    |true=>
     have HT2:Hid (l.take (i+1)=m.take (i+1)):=a0m hlt hlm2 HT.out (by rw[HX.out,HY.out];exact of_decide_eq_true HBb.out)
     go_wp2_with (go_at_fn 49;refine Calls.mono hc0 ?_;rintro e w2 ⟨rfl,hg⟩;have G2:Aside (Gr w w2):=G1.out.trans hg;clear hg hc0 ca2 cb2)
     go_roundg (l.length-(i+1))
     case measure=>omega
     case rel=>exact⟨i+1,by first|rfl|go_num,by omega,Nat.le_refl _,HT2,G2⟩
   ·have hltz: ¬(i:Int)<(l.length:Int):=by omega
    obtain rfl:i=l.length:=by omega
    have HT2:Hid (decide (l=m)=true):=decide_eq_true (a1F HLM.out HT.out)
    go_wp2
    go_returns
    exact⟨by rw[HT2.out];rfl,G1.out⟩
 ·have HD:Hid (decide (l=m)=false):=decide_eq_false fun h=>hlm (by rw[h])
  have hd:((l.length:Int) !=(m.length:Int))=true:=by simp;omega
  clear hlm
  go_enter f48,Try.ntmps48
  go_wp2
  go_returns
  exact⟨by rw[HD.out];rfl,G0.out⟩
set_option maxHeartbeats 8000000 in
set_option maxRecDepth 100000 in
theorem b7w{P:Program}{k29 k31 k41 k43 k45 k66 k97:Nat}{y29 y31 y41 y43 y45 y66 y97:List Value}(L:LayS P k29 k31 k41 k43 k45 k66 k97 y29 y31 y41 y43 y45 y66 y97)(hk:k41=14)(hy41:y41.length=k41)(f52:P.funcs[52]? =some Try.f52)(e53: ∀args w,(callFunc 53 args).run P w= .ok (.enter 53 args) w)
  (l m:List Obd) (A B':Loc) (w:World) {lo hh lo' hh':Nat} (hl:l.length≤maxLen) (h1:hh≤w.heap.size) (h2:hh'≤w.heap.size) (hA:b1P lo hh w A l) (hB:b1P lo' hh' w B' m)
  (hcb: ∀(x y:Obd) (i:Nat) (U:World),l[i]? =some x→m[i]? =some y→Gr w U→Calls P 53 #[.agg (obV x (.slice (A.ad i) x.effs.length (A.cp i))).toArray,.agg (obV y (.slice (B'.ad i) y.effs.length (B'.cp i))).toArray] U fun e w'=>e= .returned (.bool (decide (x=y)))∧Gr U w'):
  Calls P 52 #[.slice A.a l.length A.c,.slice B'.a m.length B'.c,.func (.func 53) #[] #[]] w fun e w'=>e= .returned (.bool (decide (l=m)))∧Gr w w':=by
 have t3:=L.t3;have a3:=L.a3;have z3:=L.z3;have v3:=L.v3;have qu3:=run_underlying L.t3;have t4:=L.t4;have a4:=L.a4;have z4:=L.z4;have t23:=L.t23;have a23:=L.a23;have z23:=L.z23;have qu23:=run_underlying L.t23;have t41:=L.t41;have a41:=L.a41;have z41:=L.z41;have v41:=L.v41;have qu41:=run_underlying L.t41
 have HK:Hid (k41=14):=hk
 have kb1: ¬16777216<k41:=by omega
 have kb2: ¬k41=0:=by omega
 have HYL:Hid (y41.length=k41):=hy41
 clear hk hy41
 have HA:Aside (b1P lo hh w A l):=hA
 have HB:Aside (b1P lo' hh' w B' m):=hB
 have H1:Aside _:=h1
 have H2:Aside _:=h2
 have G0:Aside (Gr w w):=Gr.refl w
 have HCB:Aside (∀(x y:Obd) (i:Nat) (U:World),l[i]? =some x→m[i]? =some y→Gr w U→Calls P 53 #[.agg (obV x (.slice (A.ad i) x.effs.length (A.cp i))).toArray,.agg (obV y (.slice (B'.ad i) y.effs.length (B'.cp i))).toArray] U fun e w'=>e= .returned (.bool (decide (x=y)))∧Gr U w'):=hcb
 have HL:Aside (l.length≤maxLen):=hl
 have hll:l.length≤9223372036854775807:=hl
 generalize hAa:A.a=aa
 generalize hBa:B'.a=ba
 have HAA:Hid _:=hAa
 have HBA:Hid _:=hBa
 clear hA hB h1 h2 hl hcb hAa hBa
 by_cases hlm:l.length=m.length
 ·rw[←hlm]
  have HLM:Hid _:=hlm
  clear hlm
  go_enter f52,Try.ntmps52
  go_wp2
  go_loopg [17] l.length (fun kx q wr=> ∃i:Nat,q= .int .i64 i∧i≤l.length∧l.length-i≤kx∧Hid (l.take i=m.take i)∧Aside (Gr w wr))
  case atStart=>exact⟨0,rfl,Nat.zero_le _,Nat.le_refl _,Eq.refl _,G0⟩
  case round=>
   clear G0
   obtain⟨i,rfl,hi,hkx,HT,G1⟩:=hrel
   by_cases hlt:i<l.length
   ·have hltz:(i:Int)<(l.length:Int):=by omega
    have wj:IntKind.i64.wrap ((i:Int)+1)=(i:Int)+1:=by rw[IntKind.wrap_i64];omega
    have hlm2:i<m.length:=by rw[←HLM.out];exact hlt
    obtain⟨B,O,hg,_,_,ca⟩:=HA.out.ld P hlt rfl
    obtain⟨B2,O2,hg',_,_,cb⟩:=HB.out.ld P hlm2 rfl
    rw[HAA.out]at hg
    rw[HBA.out]at hg'
    subst hg hg'
    obtain⟨x,hx⟩: ∃x,l[i]=x:=⟨_,rfl⟩
    obtain⟨y,hy⟩: ∃y,m[i]=y:=⟨_,rfl⟩
    obtain⟨b,hb⟩: ∃b,decide (x=y)=b:=⟨_,rfl⟩
    have hc0: ∀U,Gr w U→Calls P 53 #[.agg (obV x (.slice (A.ad i) x.effs.length (A.cp i))).toArray,.agg (obV y (.slice (B'.ad i) y.effs.length (B'.cp i))).toArray] U fun e w'=>e= .returned (.bool b)∧Gr U w':=fun U hU=>by
     rw[←hb]
     exact HCB.out x y i U (by rw[List.getElem?_eq_getElem hlt,hx]) (by rw[List.getElem?_eq_getElem hlm2,hy]) hU
    rw[hx]at ca
    rw[hy]at cb
    have HX:Hid _:=hx
    have HY:Hid _:=hy
    have HBb:Hid _:=hb
    have x01: ∀u∈obV x (.slice (A.ad i) x.effs.length (A.cp i)),u.oneCell'=true:=a1P x _ rfl
    have y01: ∀u∈obV y (.slice (B'.ad i) y.effs.length (B'.cp i)),u.oneCell'=true:=a1P y _ rfl
    have x0l:(obV x (.slice (A.ad i) x.effs.length (A.cp i))).length=k41:=by rw[HK.out];rfl
    have y0l:(obV y (.slice (B'.ad i) y.effs.length (B'.cp i))).length=k41:=by rw[HK.out];rfl
    have lX: ∀W,Gr wr W→Sem.run P (loadCellsFrom ⟨B,O+i*k41,none⟩ 0 k41 #[]) W= .ok (obV x (.slice (A.ad i) x.effs.length (A.cp i))).toArray W:=fun W hW=>by rw[HK.out];exact ca W (Kp.gr (G1.out.trans hW) H1.out)
    have lY: ∀W,Gr wr W→Sem.run P (loadCellsFrom ⟨B2,O2+i*k41,none⟩ 0 k41 #[]) W= .ok (obV y (.slice (B'.ad i) y.effs.length (B'.cp i))).toArray W:=fun W hW=>by rw[HK.out];exact cb W (Kp.gr (G1.out.trans hW) H2.out)
    generalize obV x (.slice (A.ad i) x.effs.length (A.cp i))=X0 at lX x01 x0l hc0
    generalize obV y (.slice (B'.ad i) y.effs.length (B'.cp i))=Y0 at lY y01 y0l hc0
    have LY:Aside _:=lY
    have la:=lX wr (Gr.refl _)
    have g1:=(Gr.refl wr).alloc (.cells y41.toArray 41)
    have c1:=a0T wr (.cells y41.toArray 41)
    have s1:=a0P P (a0A c1) X0 (by rw[x0l,HYL.out]) x01
    have c2:Aside _:=a0Y c1 X0 (by rw[x0l,HYL.out])
    have g2:Aside (Gr wr ((wr.alloc (.cells y41.toArray 41)).setCells wr.heap.size 0 X0)):= @Gr.sets wr wr _ (Nat.le_refl _) X0 0 _ g1
    have HC0:Aside (∀U,Gr w U→Calls P 53 #[.agg X0.toArray,.agg Y0.toArray] U fun e w'=>e= .returned (.bool b)∧Gr U w'):=hc0
    clear lX lY c1 g1 x01 hx hy hb ca cb hc0
    go_upto_region 6 with fail
    generalize hW2:(wr.alloc (.cells y41.toArray 41)).setCells wr.heap.size 0 X0=W2 at c2 g2 ⊢
    clear hW2 s1 la
    have lb:=LY.out W2 g2.out
    have c3:=a0T W2 (.cells y41.toArray 41)
    have s2:=a0P P (a0A c3) Y0 (by rw[y0l,HYL.out]) y01
    have c4:Aside _:=a0Y c3 Y0 (by rw[y0l,HYL.out])
    have g4:Aside (Gr W2 ((W2.alloc (.cells y41.toArray 41)).setCells W2.heap.size 0 Y0)):= @Gr.sets W2 W2 _ (Nat.le_refl _) Y0 0 _ ((Gr.refl W2).alloc _)
    have c5:Aside _:=a0M c2.out g4.out
    clear c3 y01 c2
    go_upto_region 7 with fail
    generalize hW4:(W2.alloc (.cells y41.toArray 41)).setCells W2.heap.size 0 Y0=W4 at c4 c5 g4 ⊢
    clear hW4 s2 lb
    have l1:=a0I P (a0A c5.out) x0l
    have l2:=a0I P (a0A c4.out) y0l
    have GW:Aside (Gr wr W4):=g2.out.trans g4.out
    have hc1:=HC0.out W4 (G1.out.trans GW.out)
    clear c4 c5 g2 g4 HC0 LY
    cases b with
    |false=>
     have HD:Hid (decide (l=m)=false):=decide_eq_false (a1J hlt hlm2 (by rw[HX.out,HY.out];exact of_decide_eq_false HBb.out))
     go_wp2_with (go_at_fn 53;refine Calls.mono hc1 ?_;rintro e w2 ⟨rfl,hg⟩;have G2:Aside (Gr w w2):=(G1.out.trans GW.out).trans hg;clear hg hc1 l1 l2)
     go_returns
     exact⟨by rw[HD.out];rfl,G2.out⟩
    |true=>
     have HT2:Hid (l.take (i+1)=m.take (i+1)):=a0m hlt hlm2 HT.out (by rw[HX.out,HY.out];exact of_decide_eq_true HBb.out)
     go_wp2_with (go_at_fn 53;refine Calls.mono hc1 ?_;rintro e w2 ⟨rfl,hg⟩;have G2:Aside (Gr w w2):=(G1.out.trans GW.out).trans hg;clear hg hc1 l1 l2)
     go_roundg (l.length-(i+1))
     case measure=>omega
     case rel=>exact⟨i+1,by first|rfl|go_num,by omega,Nat.le_refl _,HT2,G2⟩
   ·have hltz: ¬(i:Int)<(l.length:Int):=by omega
    obtain rfl:i=l.length:=by omega
    have HT2:Hid (decide (l=m)=true):=decide_eq_true (a1F HLM.out HT.out)
    go_wp2
    go_returns
    exact⟨by rw[HT2.out];rfl,G1.out⟩
 ·have HD:Hid (decide (l=m)=false):=decide_eq_false fun h=>hlm (by rw[h])
  have hd:((l.length:Int) !=(m.length:Int))=true:=by simp;omega
  clear hlm
  go_enter f52,Try.ntmps52
  go_wp2
  go_returns
  exact⟨by rw[HD.out];rfl,G0.out⟩
set_option maxHeartbeats 8000000 in
set_option maxRecDepth 100000 in
theorem b7v{P:Program}{k29 k31 k41 k43 k45 k66 k97:Nat}{y29 y31 y41 y43 y45 y66 y97:List Value}(L:LayS P k29 k31 k41 k43 k45 k66 k97 y29 y31 y41 y43 y45 y66 y97)(hk:k43=7)(hy43:y43.length=k43)(f54:P.funcs[54]? =some Try.f54)(e55: ∀args w,(callFunc 55 args).run P w= .ok (.enter 55 args) w)
  (l m:List Itm) (A B':Loc) (w:World) {lo hh lo' hh':Nat} (hl:l.length≤maxLen) (h1:hh≤w.heap.size) (h2:hh'≤w.heap.size) (hA:ItsI lo hh w A l) (hB:ItsI lo' hh' w B' m)
  (hcb: ∀(x y:Itm) (i:Nat) (U:World),l[i]? =some x→m[i]? =some y→Gr w U→Calls P 55 #[.agg (a0f x (.slice (A.ad i) x.ts.length (A.cp i))).toArray,.agg (a0f y (.slice (B'.ad i) y.ts.length (B'.cp i))).toArray] U fun e w'=>e= .returned (.bool (decide (x=y)))∧Gr U w'):
  Calls P 54 #[.slice A.a l.length A.c,.slice B'.a m.length B'.c,.func (.func 55) #[] #[]] w fun e w'=>e= .returned (.bool (decide (l=m)))∧Gr w w':=by
 have t3:=L.t3;have a3:=L.a3;have z3:=L.z3;have v3:=L.v3;have qu3:=run_underlying L.t3;have t4:=L.t4;have a4:=L.a4;have z4:=L.z4;have t26:=L.t26;have a26:=L.a26;have z26:=L.z26;have qu26:=run_underlying L.t26;have t43:=L.t43;have a43:=L.a43;have z43:=L.z43;have v43:=L.v43;have qu43:=run_underlying L.t43
 have HK:Hid (k43=7):=hk
 have kb1: ¬16777216<k43:=by omega
 have kb2: ¬k43=0:=by omega
 have HYL:Hid (y43.length=k43):=hy43
 clear hk hy43
 have HA:Aside (ItsI lo hh w A l):=hA
 have HB:Aside (ItsI lo' hh' w B' m):=hB
 have H1:Aside _:=h1
 have H2:Aside _:=h2
 have G0:Aside (Gr w w):=Gr.refl w
 have HCB:Aside (∀(x y:Itm) (i:Nat) (U:World),l[i]? =some x→m[i]? =some y→Gr w U→Calls P 55 #[.agg (a0f x (.slice (A.ad i) x.ts.length (A.cp i))).toArray,.agg (a0f y (.slice (B'.ad i) y.ts.length (B'.cp i))).toArray] U fun e w'=>e= .returned (.bool (decide (x=y)))∧Gr U w'):=hcb
 have HL:Aside (l.length≤maxLen):=hl
 have hll:l.length≤9223372036854775807:=hl
 generalize hAa:A.a=aa
 generalize hBa:B'.a=ba
 have HAA:Hid _:=hAa
 have HBA:Hid _:=hBa
 clear hA hB h1 h2 hl hcb hAa hBa
 by_cases hlm:l.length=m.length
 ·rw[←hlm]
  have HLM:Hid _:=hlm
  clear hlm
  go_enter f54,Try.ntmps54
  go_wp2
  go_loopg [17] l.length (fun kx q wr=> ∃i:Nat,q= .int .i64 i∧i≤l.length∧l.length-i≤kx∧Hid (l.take i=m.take i)∧Aside (Gr w wr))
  case atStart=>exact⟨0,rfl,Nat.zero_le _,Nat.le_refl _,Eq.refl _,G0⟩
  case round=>
   clear G0
   obtain⟨i,rfl,hi,hkx,HT,G1⟩:=hrel
   by_cases hlt:i<l.length
   ·have hltz:(i:Int)<(l.length:Int):=by omega
    have wj:IntKind.i64.wrap ((i:Int)+1)=(i:Int)+1:=by rw[IntKind.wrap_i64];omega
    have hlm2:i<m.length:=by rw[←HLM.out];exact hlt
    obtain⟨B,O,hg,_,_,ca⟩:=HA.out.ld P hlt rfl
    obtain⟨B2,O2,hg',_,_,cb⟩:=HB.out.ld P hlm2 rfl
    rw[HAA.out]at hg
    rw[HBA.out]at hg'
    subst hg hg'
    obtain⟨x,hx⟩: ∃x,l[i]=x:=⟨_,rfl⟩
    obtain⟨y,hy⟩: ∃y,m[i]=y:=⟨_,rfl⟩
    obtain⟨b,hb⟩: ∃b,decide (x=y)=b:=⟨_,rfl⟩
    have hc0: ∀U,Gr w U→Calls P 55 #[.agg (a0f x (.slice (A.ad i) x.ts.length (A.cp i))).toArray,.agg (a0f y (.slice (B'.ad i) y.ts.length (B'.cp i))).toArray] U fun e w'=>e= .returned (.bool b)∧Gr U w':=fun U hU=>by
     rw[←hb]
     exact HCB.out x y i U (by rw[List.getElem?_eq_getElem hlt,hx]) (by rw[List.getElem?_eq_getElem hlm2,hy]) hU
    rw[hx]at ca
    rw[hy]at cb
    have HX:Hid _:=hx
    have HY:Hid _:=hy
    have HBb:Hid _:=hb
    have x01: ∀u∈a0f x (.slice (A.ad i) x.ts.length (A.cp i)),u.oneCell'=true:=b0y x _ rfl
    have y01: ∀u∈a0f y (.slice (B'.ad i) y.ts.length (B'.cp i)),u.oneCell'=true:=b0y y _ rfl
    have x0l:(a0f x (.slice (A.ad i) x.ts.length (A.cp i))).length=k43:=by rw[HK.out];rfl
    have y0l:(a0f y (.slice (B'.ad i) y.ts.length (B'.cp i))).length=k43:=by rw[HK.out];rfl
    have lX: ∀W,Gr wr W→Sem.run P (loadCellsFrom ⟨B,O+i*k43,none⟩ 0 k43 #[]) W= .ok (a0f x (.slice (A.ad i) x.ts.length (A.cp i))).toArray W:=fun W hW=>by rw[HK.out];exact ca W (Kp.gr (G1.out.trans hW) H1.out)
    have lY: ∀W,Gr wr W→Sem.run P (loadCellsFrom ⟨B2,O2+i*k43,none⟩ 0 k43 #[]) W= .ok (a0f y (.slice (B'.ad i) y.ts.length (B'.cp i))).toArray W:=fun W hW=>by rw[HK.out];exact cb W (Kp.gr (G1.out.trans hW) H2.out)
    generalize a0f x (.slice (A.ad i) x.ts.length (A.cp i))=X0 at lX x01 x0l hc0
    generalize a0f y (.slice (B'.ad i) y.ts.length (B'.cp i))=Y0 at lY y01 y0l hc0
    have LY:Aside _:=lY
    have la:=lX wr (Gr.refl _)
    have g1:=(Gr.refl wr).alloc (.cells y43.toArray 43)
    have c1:=a0T wr (.cells y43.toArray 43)
    have s1:=a0P P (a0A c1) X0 (by rw[x0l,HYL.out]) x01
    have c2:Aside _:=a0Y c1 X0 (by rw[x0l,HYL.out])
    have g2:Aside (Gr wr ((wr.alloc (.cells y43.toArray 43)).setCells wr.heap.size 0 X0)):= @Gr.sets wr wr _ (Nat.le_refl _) X0 0 _ g1
    have HC0:Aside (∀U,Gr w U→Calls P 55 #[.agg X0.toArray,.agg Y0.toArray] U fun e w'=>e= .returned (.bool b)∧Gr U w'):=hc0
    clear lX lY c1 g1 x01 hx hy hb ca cb hc0
    go_upto_region 6 with fail
    generalize hW2:(wr.alloc (.cells y43.toArray 43)).setCells wr.heap.size 0 X0=W2 at c2 g2 ⊢
    clear hW2 s1 la
    have lb:=LY.out W2 g2.out
    have c3:=a0T W2 (.cells y43.toArray 43)
    have s2:=a0P P (a0A c3) Y0 (by rw[y0l,HYL.out]) y01
    have c4:Aside _:=a0Y c3 Y0 (by rw[y0l,HYL.out])
    have g4:Aside (Gr W2 ((W2.alloc (.cells y43.toArray 43)).setCells W2.heap.size 0 Y0)):= @Gr.sets W2 W2 _ (Nat.le_refl _) Y0 0 _ ((Gr.refl W2).alloc _)
    have c5:Aside _:=a0M c2.out g4.out
    clear c3 y01 c2
    go_upto_region 7 with fail
    generalize hW4:(W2.alloc (.cells y43.toArray 43)).setCells W2.heap.size 0 Y0=W4 at c4 c5 g4 ⊢
    clear hW4 s2 lb
    have l1:=a0I P (a0A c5.out) x0l
    have l2:=a0I P (a0A c4.out) y0l
    have GW:Aside (Gr wr W4):=g2.out.trans g4.out
    have hc1:=HC0.out W4 (G1.out.trans GW.out)
    clear c4 c5 g2 g4 HC0 LY
    cases b with
    |false=>
     have HD:Hid (decide (l=m)=false):=decide_eq_false (a1J hlt hlm2 (by rw[HX.out,HY.out];exact of_decide_eq_false HBb.out))
     go_wp2_with (go_at_fn 55;refine Calls.mono hc1 ?_;rintro e w2 ⟨rfl,hg⟩;have G2:Aside (Gr w w2):=(G1.out.trans GW.out).trans hg;clear hg hc1 l1 l2)
     go_returns
     exact⟨by rw[HD.out];rfl,G2.out⟩
    |true=>
     have HT2:Hid (l.take (i+1)=m.take (i+1)):=a0m hlt hlm2 HT.out (by rw[HX.out,HY.out];exact of_decide_eq_true HBb.out)
     go_wp2_with (go_at_fn 55;refine Calls.mono hc1 ?_;rintro e w2 ⟨rfl,hg⟩;have G2:Aside (Gr w w2):=(G1.out.trans GW.out).trans hg;clear hg hc1 l1 l2)
     go_roundg (l.length-(i+1))
     case measure=>omega
     case rel=>exact⟨i+1,by first|rfl|go_num,by omega,Nat.le_refl _,HT2,G2⟩
   ·have hltz: ¬(i:Int)<(l.length:Int):=by omega
    obtain rfl:i=l.length:=by omega
    have HT2:Hid (decide (l=m)=true):=decide_eq_true (a1F HLM.out HT.out)
    go_wp2
    go_returns
    exact⟨by rw[HT2.out];rfl,G1.out⟩
 ·have HD:Hid (decide (l=m)=false):=decide_eq_false fun h=>hlm (by rw[h])
  have hd:((l.length:Int) !=(m.length:Int))=true:=by simp;omega
  clear hlm
  go_enter f54,Try.ntmps54
  go_wp2
  go_returns
  exact⟨by rw[HD.out];rfl,G0.out⟩
end Go.Proofs.Ytcblehiddfnafaa.canonSame
