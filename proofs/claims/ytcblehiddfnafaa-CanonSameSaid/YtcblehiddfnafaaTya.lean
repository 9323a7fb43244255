/-
  Chapter 28: the program's Equal, of rows, walked.
-/
import Derived.Test.YtcblehiddfnafaaTxY
namespace Go.Proofs.Ytcblehiddfnafaa.canonSame
open Go.Shelf Go.RowKit Go.Lib Go.Sort
set_option maxHeartbeats 4000000 in
set_option maxRecDepth 100000 in
theorem b3Q{P:Program}{k29 k31 k41 k43 k45 k66 k97:Nat}{y29 y31 y41 y43 y45 y66 y97:List Value}(L:LayS P k29 k31 k41 k43 k45 k66 k97 y29 y31 y41 y43 y45 y66 y97)(f72:P.funcs[72]? =some Try.f72)
  (l m:List Int) (a b:Option Addr) (c d:Nat) (w:World) {lo hh lo' hh':Nat} (hl:l.length≤maxLen) (h1:hh≤w.heap.size) (h2:hh'≤w.heap.size) (hA:RowsI lo hh w a 1 (l.map fun x=>((fun n:Int=>[Value.int .i64 n]) x).toArray)) (hB:RowsI lo' hh' w b 1 (m.map fun x=>((fun n:Int=>[Value.int .i64 n]) x).toArray)):
  Calls P 72 #[.slice a l.length c,.slice b m.length d] w fun e w'=>e= .returned (.bool (decide (l=m)))∧Gr w w':=by
 have mixed:=L.mixed;have t3:=L.t3;have a3:=L.a3;have z3:=L.z3;have v3:=L.v3;have qu3:=run_underlying L.t3;have t4:=L.t4;have a4:=L.a4;have z4:=L.z4
 have t25:=L.t25;have a25:=L.a25;have z25:=L.z25;have qu25:=run_underlying L.t25
 have HA:Aside (RowsI lo hh w a 1 (l.map fun x=>((fun n:Int=>[Value.int .i64 n]) x).toArray)):=hA
 have HB:Aside (RowsI lo' hh' w b 1 (m.map fun x=>((fun n:Int=>[Value.int .i64 n]) x).toArray)):=hB
 have H1:Aside _:=h1
 have H2:Aside _:=h2
 have G0:Aside (Gr w w):=Gr.refl w
 have HL:Aside (l.length≤maxLen):=hl
 have hll:l.length≤9223372036854775807:=hl
 clear hA hB h1 h2 hl
 by_cases hlm:l.length=m.length
 ·rw[←hlm]
  have HLM:Hid _:=hlm
  clear hlm
  go_enter f72,Try.ntmps72
  go_wp2
  go_loopg [13] l.length (fun kx q wr=> ∃i:Nat,q= .int .i64 i∧i≤l.length∧l.length-i≤kx∧Hid (l.take i=m.take i)∧Aside (Gr w wr))
  case atStart=>exact⟨0,rfl,Nat.zero_le _,Nat.le_refl _,Eq.refl _,G0⟩
  case round=>
   clear G0
   obtain⟨i,rfl,hi,hkx,HT,G1⟩:=hrel
   by_cases hlt:i<l.length
   ·have hltz:(i:Int)<(l.length:Int):=by omega
    have wj:IntKind.i64.wrap ((i:Int)+1)=(i:Int)+1:=by rw[IntKind.wrap_i64];omega
    have hlm2:i<m.length:=by rw[←HLM.out];exact hlt
    obtain⟨g,o,rfl,_,_,ca⟩:=RowsI.int (RowsI.kp HA.out (Kp.gr G1.out H1.out)) hlt
    obtain⟨g',o',rfl,_,_,cb⟩:=RowsI.int (RowsI.kp HB.out (Kp.gr G1.out H2.out)) hlm2
    obtain⟨x,hx⟩: ∃x,l[i]=x:=⟨_,rfl⟩
    obtain⟨y,hy⟩: ∃y,m[i]=y:=⟨_,rfl⟩
    rw[hx]at ca
    rw[hy]at cb
    have HX:Hid _:=hx
    have HY:Hid _:=hy
    clear hx hy
    cases hq:(x !=y)with
    |true=>
     have HD:Hid (decide (l=m)=false):=decide_eq_false (a1J hlt hlm2 (by rw[HX.out,HY.out];simpa using hq))
     go_wp2
     go_big_region_o
     go_wp2
     go_returns
     exact⟨by rw[HD.out];rfl,G1.out.drew⟩
    |false=>
     have HT2:Hid (l.take (i+1)=m.take (i+1)):=a0m hlt hlm2 HT.out (by rw[HX.out,HY.out];simpa using hq)
     go_wp2
     go_big_region_o
     go_wp2
     go_roundg (l.length-(i+1))
     case measure=>omega
     case rel=>exact⟨i+1,by first|rfl|go_num,by omega,Nat.le_refl _,HT2,G1.out.drew⟩
   ·have hltz: ¬(i:Int)<(l.length:Int):=by omega
    obtain rfl:i=l.length:=by omega
    have HT2:Hid (decide (l=m)=true):=decide_eq_true (a1F HLM.out HT.out)
    go_wp2
    go_returns
    exact⟨by rw[HT2.out];rfl,G1.out⟩
 ·have HD:Hid (decide (l=m)=false):=decide_eq_false fun h=>hlm (by rw[h])
  have hd:((l.length:Int) !=(m.length:Int))=true:=by simp;omega
  clear hlm
  go_enter f72,Try.ntmps72
  go_wp2
  go_returns
  exact⟨by rw[HD.out];rfl,G0.out⟩
set_option maxHeartbeats 4000000 in
set_option maxRecDepth 100000 in
theorem b6F{P:Program}{k29 k31 k41 k43 k45 k66 k97:Nat}{y29 y31 y41 y43 y45 y66 y97:List Value}(L:LayS P k29 k31 k41 k43 k45 k66 k97 y29 y31 y41 y43 y45 y66 y97)(hk:k66=8)(f73:P.funcs[73]? =some Try.f73)
  (ne: ∀(x y:Pld) (W:World),Sem.run P (binOp .neq 66 (.agg (plV x).toArray) (.agg (plV y).toArray)) W= .ok (.bool (!(decide (x=y)))) W)
  (gu: ∀s t (xs ys:Array Value) W,Sem.run P (eqGuard .neq 66 s t (.agg xs) (.agg ys)) W= .ok () W)
  (l m:List Pld) (a b:Option Addr) (c d:Nat) (w:World) {lo hh lo' hh':Nat} (hl:l.length≤maxLen) (h1:hh≤w.heap.size) (h2:hh'≤w.heap.size) (hA:RowsI lo hh w a 8 (l.map fun x=>(plV x).toArray)) (hB:RowsI lo' hh' w b 8 (m.map fun x=>(plV x).toArray)):
  Calls P 73 #[.slice a l.length c,.slice b m.length d] w fun e w'=>e= .returned (.bool (decide (l=m)))∧Gr w w':=by
 have mixed:=L.mixed;have t3:=L.t3;have a3:=L.a3;have z3:=L.z3;have v3:=L.v3;have qu3:=run_underlying L.t3;have t4:=L.t4;have a4:=L.a4;have z4:=L.z4
 have t22:=L.t22;have a22:=L.a22;have z22:=L.z22;have qu22:=run_underlying L.t22
 have qu66:=run_underlying L.t66;have a66:=L.a66;have z66:=L.z66;have v66:=L.v66
 have HA:Aside (RowsI lo hh w a 8 (l.map fun x=>(plV x).toArray)):=hA
 have HB:Aside (RowsI lo' hh' w b 8 (m.map fun x=>(plV x).toArray)):=hB
 have H1:Aside _:=h1
 have H2:Aside _:=h2
 have G0:Aside (Gr w w):=Gr.refl w
 have NE:Aside _:=ne
 have HK:Hid (k66=8):=hk
 have hk0: ¬k66=0:=by omega
 have kb: ¬16777216<k66:=by omega
 have HL:Aside (l.length≤maxLen):=hl
 have hll:l.length≤9223372036854775807:=hl
 clear hA hB h1 h2 hl ne hk
 by_cases hlm:l.length=m.length
 ·rw[←hlm]
  have HLM:Hid _:=hlm
  clear hlm
  go_enter f73,Try.ntmps73
  go_wp2
  go_loopg [13] l.length (fun kx q wr=> ∃i:Nat,q= .int .i64 i∧i≤l.length∧l.length-i≤kx∧Hid (l.take i=m.take i)∧Aside (Gr w wr))
  case atStart=>exact⟨0,rfl,Nat.zero_le _,Nat.le_refl _,Eq.refl _,G0⟩
  case round=>
   clear G0
   obtain⟨i,rfl,hi,hkx,HT,G1⟩:=hrel
   by_cases hlt:i<l.length
   ·have hltz:(i:Int)<(l.length:Int):=by omega
    have wj:IntKind.i64.wrap ((i:Int)+1)=(i:Int)+1:=by rw[IntKind.wrap_i64];omega
    have hlm2:i<m.length:=by rw[←HLM.out];exact hlt
    obtain⟨g,o,rfl,ca⟩:=RowsI.ld P HA.out hlt rfl
    obtain⟨g',o',rfl,cb⟩:=RowsI.ld P HB.out hlm2 rfl
    have lx0:=ca wr.drew (Kp.gr G1.out.drew H1.out)
    have ly0:=cb wr.drew (Kp.gr G1.out.drew H2.out)
    rw[←HK.out]at lx0 ly0
    have nn:=NE.out l[i] m[i]
    obtain⟨q,hq⟩: ∃q,decide (l[i]=m[i])=q:=⟨_,rfl⟩
    rw[hq]at nn
    have HQ:Hid _:=hq
    generalize plV l[i]=X at lx0 nn
    generalize plV m[i]=Y at ly0 nn
    clear hq ca cb
    cases q with
    |false=>
     have HD:Hid (decide (l=m)=false):=decide_eq_false (a1J hlt hlm2 (of_decide_eq_false HQ.out))
     go_wp2
     go_big_region_o
     go_wp2
     go_returns
     exact⟨by rw[HD.out];rfl,G1.out.drew⟩
    |true=>
     have HT2:Hid (l.take (i+1)=m.take (i+1)):=a0m hlt hlm2 HT.out (of_decide_eq_true HQ.out)
     go_wp2
     go_big_region_o
     go_wp2
     go_roundg (l.length-(i+1))
     case measure=>omega
     case rel=>exact⟨i+1,by first|rfl|go_num,by omega,Nat.le_refl _,HT2,G1.out.drew⟩
   ·have hltz: ¬(i:Int)<(l.length:Int):=by omega
    obtain rfl:i=l.length:=by omega
    have HT2:Hid (decide (l=m)=true):=decide_eq_true (a1F HLM.out HT.out)
    go_wp2
    go_returns
    exact⟨by rw[HT2.out];rfl,G1.out⟩
 ·have HD:Hid (decide (l=m)=false):=decide_eq_false fun h=>hlm (by rw[h])
  have hd:((l.length:Int) !=(m.length:Int))=true:=by simp;omega
  clear hlm
  go_enter f73,Try.ntmps73
  go_wp2
  go_returns
  exact⟨by rw[HD.out];rfl,G0.out⟩
set_option maxHeartbeats 4000000 in
set_option maxRecDepth 100000 in
theorem b6E{P:Program}{k29 k31 k41 k43 k45 k66 k97:Nat}{y29 y31 y41 y43 y45 y66 y97:List Value}(L:LayS P k29 k31 k41 k43 k45 k66 k97 y29 y31 y41 y43 y45 y66 y97)(hk:k97=4)(f79:P.funcs[79]? =some Try.f79)
  (ne: ∀(x y:Efd) (W:World),Sem.run P (binOp .neq 97 (.agg (efV x).toArray) (.agg (efV y).toArray)) W= .ok (.bool (!(decide (x=y)))) W)
  (gu: ∀s t (xs ys:Array Value) W,Sem.run P (eqGuard .neq 97 s t (.agg xs) (.agg ys)) W= .ok () W)
  (l m:List Efd) (a b:Option Addr) (c d:Nat) (w:World) {lo hh lo' hh':Nat} (hl:l.length≤maxLen) (h1:hh≤w.heap.size) (h2:hh'≤w.heap.size) (hA:RowsI lo hh w a 4 (l.map fun x=>(efV x).toArray)) (hB:RowsI lo' hh' w b 4 (m.map fun x=>(efV x).toArray)):
  Calls P 79 #[.slice a l.length c,.slice b m.length d] w fun e w'=>e= .returned (.bool (decide (l=m)))∧Gr w w':=by
 have mixed:=L.mixed;have t3:=L.t3;have a3:=L.a3;have z3:=L.z3;have v3:=L.v3;have qu3:=run_underlying L.t3;have t4:=L.t4;have a4:=L.a4;have z4:=L.z4
 have t39:=L.t39;have a39:=L.a39;have z39:=L.z39;have qu39:=run_underlying L.t39
 have qu97:=run_underlying L.t97;have a97:=L.a97;have z97:=L.z97;have v97:=L.v97
 have HA:Aside (RowsI lo hh w a 4 (l.map fun x=>(efV x).toArray)):=hA
 have HB:Aside (RowsI lo' hh' w b 4 (m.map fun x=>(efV x).toArray)):=hB
 have H1:Aside _:=h1
 have H2:Aside _:=h2
 have G0:Aside (Gr w w):=Gr.refl w
 have NE:Aside _:=ne
 have HK:Hid (k97=4):=hk
 have hk0: ¬k97=0:=by omega
 have kb: ¬16777216<k97:=by omega
 have HL:Aside (l.length≤maxLen):=hl
 have hll:l.length≤9223372036854775807:=hl
 clear hA hB h1 h2 hl ne hk
 by_cases hlm:l.length=m.length
 ·rw[←hlm]
  have HLM:Hid _:=hlm
  clear hlm
  go_enter f79,Try.ntmps79
  go_wp2
  go_loopg [13] l.length (fun kx q wr=> ∃i:Nat,q= .int .i64 i∧i≤l.length∧l.length-i≤kx∧Hid (l.take i=m.take i)∧Aside (Gr w wr))
  case atStart=>exact⟨0,rfl,Nat.zero_le _,Nat.le_refl _,Eq.refl _,G0⟩
  case round=>
   clear G0
   obtain⟨i,rfl,hi,hkx,HT,G1⟩:=hrel
   by_cases hlt:i<l.length
   ·have hltz:(i:Int)<(l.length:Int):=by omega
    have wj:IntKind.i64.wrap ((i:Int)+1)=(i:Int)+1:=by rw[IntKind.wrap_i64];omega
    have hlm2:i<m.length:=by rw[←HLM.out];exact hlt
    obtain⟨g,o,rfl,ca⟩:=RowsI.ld P HA.out hlt rfl
    obtain⟨g',o',rfl,cb⟩:=RowsI.ld P HB.out hlm2 rfl
    have lx0:=ca wr.drew (Kp.gr G1.out.drew H1.out)
    have ly0:=cb wr.drew (Kp.gr G1.out.drew H2.out)
    rw[←HK.out]at lx0 ly0
    have nn:=NE.out l[i] m[i]
    obtain⟨q,hq⟩: ∃q,decide (l[i]=m[i])=q:=⟨_,rfl⟩
    rw[hq]at nn
    have HQ:Hid _:=hq
    generalize efV l[i]=X at lx0 nn
    generalize efV m[i]=Y at ly0 nn
    clear hq ca cb
    cases q with
    |false=>
     have HD:Hid (decide (l=m)=false):=decide_eq_false (a1J hlt hlm2 (of_decide_eq_false HQ.out))
     go_wp2
     go_big_region_o
     go_wp2
     go_returns
     exact⟨by rw[HD.out];rfl,G1.out.drew⟩
    |true=>
     have HT2:Hid (l.take (i+1)=m.take (i+1)):=a0m hlt hlm2 HT.out (of_decide_eq_true HQ.out)
     go_wp2
     go_big_region_o
     go_wp2
     go_roundg (l.length-(i+1))
     case measure=>omega
     case rel=>exact⟨i+1,by first|rfl|go_num,by omega,Nat.le_refl _,HT2,G1.out.drew⟩
   ·have hltz: ¬(i:Int)<(l.length:Int):=by omega
    obtain rfl:i=l.length:=by omega
    have HT2:Hid (decide (l=m)=true):=decide_eq_true (a1F HLM.out HT.out)
    go_wp2
    go_returns
    exact⟨by rw[HT2.out];rfl,G1.out⟩
 ·have HD:Hid (decide (l=m)=false):=decide_eq_false fun h=>hlm (by rw[h])
  have hd:((l.length:Int) !=(m.length:Int))=true:=by simp;omega
  clear hlm
  go_enter f79,Try.ntmps79
  go_wp2
  go_returns
  exact⟨by rw[HD.out];rfl,G0.out⟩
set_option maxHeartbeats 4000000 in
set_option maxRecDepth 100000 in
theorem b3P{P:Program}{k29 k31 k41 k43 k45 k66 k97:Nat}{y29 y31 y41 y43 y45 y66 y97:List Value}(L:LayS P k29 k31 k41 k43 k45 k66 k97 y29 y31 y41 y43 y45 y66 y97)(hk:k45=2)(f80:P.funcs[80]? =some Try.f80)
  (ne: ∀(x y:Int×Int) (W:World),Sem.run P (binOp .neq 45 (.agg ((fun p:Int×Int=>[Value.int .i64 p.1,.int .i64 p.2]) x).toArray) (.agg ((fun p:Int×Int=>[Value.int .i64 p.1,.int .i64 p.2]) y).toArray)) W= .ok (.bool (!(decide (x=y)))) W)
  (gu: ∀s t (xs ys:Array Value) W,Sem.run P (eqGuard .neq 45 s t (.agg xs) (.agg ys)) W= .ok () W)
  (l m:List (Int×Int)) (a b:Option Addr) (c d:Nat) (w:World) {lo hh lo' hh':Nat} (hl:l.length≤maxLen) (h1:hh≤w.heap.size) (h2:hh'≤w.heap.size) (hA:RowsI lo hh w a 2 (l.map fun x=>((fun p:Int×Int=>[Value.int .i64 p.1,.int .i64 p.2]) x).toArray)) (hB:RowsI lo' hh' w b 2 (m.map fun x=>((fun p:Int×Int=>[Value.int .i64 p.1,.int .i64 p.2]) x).toArray)):
  Calls P 80 #[.slice a l.length c,.slice b m.length d] w fun e w'=>e= .returned (.bool (decide (l=m)))∧Gr w w':=by
 have mixed:=L.mixed;have t3:=L.t3;have a3:=L.a3;have z3:=L.z3;have v3:=L.v3;have qu3:=run_underlying L.t3;have t4:=L.t4;have a4:=L.a4;have z4:=L.z4
 have t27:=L.t27;have a27:=L.a27;have z27:=L.z27;have qu27:=run_underlying L.t27
 have qu45:=run_underlying L.t45;have a45:=L.a45;have z45:=L.z45;have v45:=L.v45
 have HA:Aside (RowsI lo hh w a 2 (l.map fun x=>((fun p:Int×Int=>[Value.int .i64 p.1,.int .i64 p.2]) x).toArray)):=hA
 have HB:Aside (RowsI lo' hh' w b 2 (m.map fun x=>((fun p:Int×Int=>[Value.int .i64 p.1,.int .i64 p.2]) x).toArray)):=hB
 have H1:Aside _:=h1
 have H2:Aside _:=h2
 have G0:Aside (Gr w w):=Gr.refl w
 have NE:Aside _:=ne
 have HK:Hid (k45=2):=hk
 have hk0: ¬k45=0:=by omega
 have kb: ¬16777216<k45:=by omega
 have HL:Aside (l.length≤maxLen):=hl
 have hll:l.length≤9223372036854775807:=hl
 clear hA hB h1 h2 hl ne hk
 by_cases hlm:l.length=m.length
 ·rw[←hlm]
  have HLM:Hid _:=hlm
  clear hlm
  go_enter f80,Try.ntmps80
  go_wp2
  go_loopg [13] l.length (fun kx q wr=> ∃i:Nat,q= .int .i64 i∧i≤l.length∧l.length-i≤kx∧Hid (l.take i=m.take i)∧Aside (Gr w wr))
  case atStart=>exact⟨0,rfl,Nat.zero_le _,Nat.le_refl _,Eq.refl _,G0⟩
  case round=>
   clear G0
   obtain⟨i,rfl,hi,hkx,HT,G1⟩:=hrel
   by_cases hlt:i<l.length
   ·have hltz:(i:Int)<(l.length:Int):=by omega
    have wj:IntKind.i64.wrap ((i:Int)+1)=(i:Int)+1:=by rw[IntKind.wrap_i64];omega
    have hlm2:i<m.length:=by rw[←HLM.out];exact hlt
    obtain⟨g,o,rfl,ca⟩:=RowsI.ld P HA.out hlt rfl
    obtain⟨g',o',rfl,cb⟩:=RowsI.ld P HB.out hlm2 rfl
    have lx0:=ca wr.drew (Kp.gr G1.out.drew H1.out)
    have ly0:=cb wr.drew (Kp.gr G1.out.drew H2.out)
    rw[←HK.out]at lx0 ly0
    have nn:=NE.out l[i] m[i]
    obtain⟨q,hq⟩: ∃q,decide (l[i]=m[i])=q:=⟨_,rfl⟩
    rw[hq]at nn
    have HQ:Hid _:=hq
    generalize (fun p:Int×Int=>[Value.int .i64 p.1,.int .i64 p.2]) l[i]=X at lx0 nn
    generalize (fun p:Int×Int=>[Value.int .i64 p.1,.int .i64 p.2]) m[i]=Y at ly0 nn
    clear hq ca cb
    cases q with
    |false=>
     have HD:Hid (decide (l=m)=false):=decide_eq_false (a1J hlt hlm2 (of_decide_eq_false HQ.out))
     go_wp2
     go_big_region_o
     go_wp2
     go_returns
     exact⟨by rw[HD.out];rfl,G1.out.drew⟩
    |true=>
     have HT2:Hid (l.take (i+1)=m.take (i+1)):=a0m hlt hlm2 HT.out (of_decide_eq_true HQ.out)
     go_wp2
     go_big_region_o
     go_wp2
     go_roundg (l.length-(i+1))
     case measure=>omega
     case rel=>exact⟨i+1,by first|rfl|go_num,by omega,Nat.le_refl _,HT2,G1.out.drew⟩
   ·have hltz: ¬(i:Int)<(l.length:Int):=by omega
    obtain rfl:i=l.length:=by omega
    have HT2:Hid (decide (l=m)=true):=decide_eq_true (a1F HLM.out HT.out)
    go_wp2
    go_returns
    exact⟨by rw[HT2.out];rfl,G1.out⟩
 ·have HD:Hid (decide (l=m)=false):=decide_eq_false fun h=>hlm (by rw[h])
  have hd:((l.length:Int) !=(m.length:Int))=true:=by simp;omega
  clear hlm
  go_enter f80,Try.ntmps80
  go_wp2
  go_returns
  exact⟨by rw[HD.out];rfl,G0.out⟩
set_option maxHeartbeats 4000000 in
theorem b5D{P:Program}(f49:P.funcs[49]? =some Try.f49)(e72: ∀args w,(callFunc 72 args).run P w= .ok (.enter 72 args) w)(l m:List Int)(a b:Option Addr)(c d:Nat)(w:World)
  (h:Calls P 72 #[.slice a l.length c,.slice b m.length d] w fun e w'=>e= .returned (.bool (decide (l=m)))∧Gr w w'):
  Calls P 49 #[.slice a l.length c,.slice b m.length d] w fun e w'=>e= .returned (.bool (decide (l=m)))∧Gr w w':=by
 generalize decide (l=m)=q at h ⊢
 go_enter f49,Try.ntmps49
 go_wp2_with (go_at_fn 72;refine h.mono ?_;rintro e w2 ⟨rfl,hg⟩;have G1:Aside (Gr w w2):=hg;clear hg)
 go_returns
 exact⟨rfl,G1.out⟩
set_option maxHeartbeats 4000000 in
theorem b6q{P:Program}(f51:P.funcs[51]? =some Try.f51)(e73: ∀args w,(callFunc 73 args).run P w= .ok (.enter 73 args) w)(l m:List Pld)(a b:Option Addr)(c d:Nat)(w:World)
  (h:Calls P 73 #[.slice a l.length c,.slice b m.length d] w fun e w'=>e= .returned (.bool (decide (l=m)))∧Gr w w'):
  Calls P 51 #[.slice a l.length c,.slice b m.length d] w fun e w'=>e= .returned (.bool (decide (l=m)))∧Gr w w':=by
 generalize decide (l=m)=q at h ⊢
 go_enter f51,Try.ntmps51
 go_wp2_with (go_at_fn 73;refine h.mono ?_;rintro e w2 ⟨rfl,hg⟩;have G1:Aside (Gr w w2):=hg;clear hg)
 go_returns
 exact⟨rfl,G1.out⟩
set_option maxHeartbeats 4000000 in
theorem b6m{P:Program}(f74:P.funcs[74]? =some Try.f74)(e79: ∀args w,(callFunc 79 args).run P w= .ok (.enter 79 args) w)(l m:List Efd)(a b:Option Addr)(c d:Nat)(w:World)
  (h:Calls P 79 #[.slice a l.length c,.slice b m.length d] w fun e w'=>e= .returned (.bool (decide (l=m)))∧Gr w w'):
  Calls P 74 #[.slice a l.length c,.slice b m.length d] w fun e w'=>e= .returned (.bool (decide (l=m)))∧Gr w w':=by
 generalize decide (l=m)=q at h ⊢
 go_enter f74,Try.ntmps74
 go_wp2_with (go_at_fn 79;refine h.mono ?_;rintro e w2 ⟨rfl,hg⟩;have G1:Aside (Gr w w2):=hg;clear hg)
 go_returns
 exact⟨rfl,G1.out⟩
set_option maxHeartbeats 4000000 in
theorem b5C{P:Program}(f75:P.funcs[75]? =some Try.f75)(e80: ∀args w,(callFunc 80 args).run P w= .ok (.enter 80 args) w)(l m:List (Int×Int))(a b:Option Addr)(c d:Nat)(w:World)
  (h:Calls P 80 #[.slice a l.length c,.slice b m.length d] w fun e w'=>e= .returned (.bool (decide (l=m)))∧Gr w w'):
  Calls P 75 #[.slice a l.length c,.slice b m.length d] w fun e w'=>e= .returned (.bool (decide (l=m)))∧Gr w w':=by
 generalize decide (l=m)=q at h ⊢
 go_enter f75,Try.ntmps75
 go_wp2_with (go_at_fn 80;refine h.mono ?_;rintro e w2 ⟨rfl,hg⟩;have G1:Aside (Gr w w2):=hg;clear hg)
 go_returns
 exact⟨rfl,G1.out⟩
end Go.Proofs.Ytcblehiddfnafaa.canonSame
