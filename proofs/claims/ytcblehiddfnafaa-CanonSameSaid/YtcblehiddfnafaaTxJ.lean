/-
  Chapter 28: the answer's comparisons of lists, walked.
-/
import Derived.Test.YtcblehiddfnafaaTxG
import Derived.Laws.StructEq
import Derived.Deep.CutBlock
import Derived.Deep.CutRange
import Derived.Deep.RegionHeld
namespace Go.Proofs.Ytcblehiddfnafaa.canonSame
open Go.Shelf Go.RowKit Go.Lib Go.Sort
theorem a1F{α:Type}{l m:List α}(h:l.length=m.length)(ht:l.take l.length=m.take l.length):l=m:=by
 rw[List.take_length,h,List.take_length]at ht
 exact ht
theorem a0m{α:Type}{l m:List α}{i:Nat}(hi:i<l.length)(hj:i<m.length)(h:l.take i=m.take i)(e:l[i]=m[i]):l.take (i+1)=m.take (i+1):=by
 rw[List.take_succ_eq_append_getElem hi,List.take_succ_eq_append_getElem hj,h,e]
theorem a1J{α:Type}{l m:List α}{i:Nat}(hi:i<l.length)(hj:i<m.length)(e:l[i]≠m[i]):l≠m:=by
 rintro rfl
 exact e rfl
theorem b7F(a b c d:Int)(W:World):Sem.run Try.prog (binOp .neq 45 (.agg #[.int .i64 a,.int .i64 b]) (.agg #[.int .i64 c,.int .i64 d])) W= .ok (.bool (!(a==c&&b==d))) W:=by
 have u3:=Try.underlying3
 have a3:=Try.isAgg3
 have z3:=Try.sizeOf3
 have hS:Try.prog.underlying 45=some (.struct (Try.prog.fieldsOf 45)):=by kernel_rfl
 have hp:Try.prog.stoodInHeld 45=false:=by kernel_rfl
 rw[run_neq_struct,show(10000:Nat)=9999+1 from rfl,run_equalIn_agg W 9999 45 _ _ hS hp]
 simp only[Program.fieldsOf,Try.underlying45]
 cases h1:(a==c)<;>cases h2:(b==d)<;>go_simp
set_option maxHeartbeats 4000000 in
set_option maxRecDepth 100000 in
theorem a3s(l m:List Int)(a b:Option Addr)(c d:Nat)(w:World){lo hh lo' hh':Nat}(hl:l.length≤900)(h1:hh≤w.heap.size)(h2:hh'≤w.heap.size)(hA:a2o lo hh w a l)(hB:a2o lo' hh' w b m):
  Calls Try.prog 30 #[.slice a l.length c,.slice b m.length d] w fun e w'=>e= .returned (.bool (decide (l=m)))∧Gr w w':=by
 have mixed:=a1L.mixed
 have HA:Aside (a2o lo hh w a l):=hA
 have HB:Aside (a2o lo' hh' w b m):=hB
 have H1:Aside _:=h1
 have H2:Aside _:=h2
 have G0:Aside _:=Gr.refl w
 clear hA hB h1 h2
 by_cases hlm:l.length=m.length
 ·rw[←hlm]
  have HLM:Hid _:=hlm
  clear hlm
  go_enter Try.func30,Try.ntmps30
  go_wp2
  go_loopg [5] l.length (fun kx s5 wr=> ∃i:Nat,s5= .int .i64 i∧i≤l.length∧l.length-i≤kx∧Hid (l.take i=m.take i)∧Aside (Gr w wr))
  case atStart=>exact⟨0,rfl,Nat.zero_le _,Nat.le_refl _,Eq.refl _,G0⟩
  case round=>
   clear G0
   obtain⟨i,rfl,hi,hkx,HT,G1⟩:=hrel
   have wj:IntKind.i64.wrap ((i:Int)+1)=(i:Int)+1:=by rw[IntKind.wrap_i64];omega
   by_cases hlt:i<l.length
   ·have hltz:(i:Int)<(l.length:Int):=by omega
    have hlm2:i<m.length:=by rw[←HLM.out];exact hlt
    obtain⟨g,o,rfl,_,_,ca⟩:=RowsI.int (RowsI.kp HA.out (Kp.gr G1.out H1.out)) hlt
    obtain⟨g',o',rfl,_,_,cb⟩:=RowsI.int (RowsI.kp HB.out (Kp.gr G1.out H2.out)) hlm2
    obtain⟨x,hx⟩: ∃x,l[i]=x:=⟨_,rfl⟩
    obtain⟨y,hy⟩: ∃y,m[i]=y:=⟨_,rfl⟩
    rw[hx]at ca
    rw[hy]at cb
    have HX:Hid _:=hx
    have HY:Hid _:=hy
    clear hx hy
    cases hq:(x !=y)with
    |true=>
     go_wp2
     go_big_region_o
     go_wp2
     go_returns
     refine⟨?_,G1.out.drew⟩
     rw[decide_eq_false]
     ·rfl
     ·refine a1J hlt (by rw[←HLM.out];exact hlt) ?_
      rw[HX.out,HY.out]
      simpa using hq
    |false=>
     have HT2:Hid (l.take (i+1)=m.take (i+1)):=a0m hlt (by rw[←HLM.out];exact hlt) HT.out (by rw[HX.out,HY.out];simpa using hq)
     go_wp2
     go_big_region_o
     go_wp2
     go_roundg (l.length-(i+1))
     case measure=>omega
     case rel=>exact⟨i+1,by first|rfl|go_num,by omega,Nat.le_refl _,HT2,G1.out.drew⟩
   ·have hltz: ¬(i:Int)<(l.length:Int):=by omega
    obtain rfl:i=l.length:=by omega
    have HT2:Hid (l=m):=a1F HLM.out HT.out
    go_wp2
    go_returns
    refine⟨?_,G1.out⟩
    rw[decide_eq_true HT2.out]
    rfl
 ·have hn:decide (l=m)=false:=decide_eq_false fun h=>hlm (by rw[h])
  rw[hn]
  have hd:((l.length:Int) !=(m.length:Int))=true:=by simp;omega
  clear hn
  go_enter Try.func30,Try.ntmps30
  go_wp2
  go_returns
  exact⟨rfl,G0.out⟩
set_option maxHeartbeats 4000000 in
set_option maxRecDepth 100000 in
theorem a2e(l m:List (Int×Int))(a b:Option Addr)(c d:Nat)(w:World){lo hh lo' hh':Nat}(hl:l.length≤900)(h1:hh≤w.heap.size)(h2:hh'≤w.heap.size)(hA:a9n lo hh w a l)(hB:a9n lo' hh' w b m):
  Calls Try.prog 32 #[.slice a l.length c,.slice b m.length d] w fun e w'=>e= .returned (.bool (decide (l=m)))∧Gr w w':=by
 have mixed:=a1L.mixed
 have HA:Aside (a9n lo hh w a l):=hA
 have HB:Aside (a9n lo' hh' w b m):=hB
 have H1:Aside _:=h1
 have H2:Aside _:=h2
 have G0:Aside _:=Gr.refl w
 have ne45:=b7F
 clear hA hB h1 h2
 by_cases hlm:l.length=m.length
 ·rw[←hlm]
  have HLM:Hid _:=hlm
  clear hlm
  go_enter Try.func32,Try.ntmps32
  go_wp2
  go_loopg [5] l.length (fun kx s5 wr=> ∃i:Nat,s5= .int .i64 i∧i≤l.length∧l.length-i≤kx∧Hid (l.take i=m.take i)∧Aside (Gr w wr))
  case atStart=>exact⟨0,rfl,Nat.zero_le _,Nat.le_refl _,Eq.refl _,G0⟩
  case round=>
   clear G0
   obtain⟨i,rfl,hi,hkx,HT,G1⟩:=hrel
   have wj:IntKind.i64.wrap ((i:Int)+1)=(i:Int)+1:=by rw[IntKind.wrap_i64];omega
   by_cases hlt:i<l.length
   ·have hltz:(i:Int)<(l.length:Int):=by omega
    have hlm2:i<m.length:=by rw[←HLM.out];exact hlt
    obtain⟨g,o,rfl,_,ca,ca'⟩:=Prs.rd (RowsI.rows (RowsI.kp HA.out (Kp.gr G1.out H1.out)) (Nat.le_trans H1.out G1.out.le)) hlt
    obtain⟨g',o',rfl,_,cb,cb'⟩:=Prs.rd (RowsI.rows (RowsI.kp HB.out (Kp.gr G1.out H2.out)) (Nat.le_trans H2.out G1.out.le)) hlm2
    obtain⟨x,hx⟩: ∃x,l[i]=x:=⟨_,rfl⟩
    obtain⟨y,hy⟩: ∃y,m[i]=y:=⟨_,rfl⟩
    rw[hx]at ca ca'
    rw[hy]at cb cb'
    have HX:Hid _:=hx
    have HY:Hid _:=hy
    clear hx hy
    obtain⟨x1,x2⟩:=x
    obtain⟨y1,y2⟩:=y
    have nn:=ne45 x1 x2 y1 y2
    simp only at ca ca' cb cb'
    cases hq:(x1==y1&&x2==y2)with
    |false=>
     rw[hq]at nn
     have HQ:Hid _:=hq
     clear hq ne45
     go_wp2
     go_big_region_o
     go_wp2
     go_returns
     refine⟨?_,G1.out.drew⟩
     rw[decide_eq_false]
     ·rfl
     ·refine a1J hlt (by rw[←HLM.out];exact hlt) ?_
      rw[HX.out,HY.out]
      have:=HQ.out
      intro h
      injection h with h1 h2
      subst h1 h2
      simp at this
    |true=>
     rw[hq]at nn
     have HT2:Hid (l.take (i+1)=m.take (i+1)):=a0m hlt (by rw[←HLM.out];exact hlt) HT.out (by rw[HX.out,HY.out];simp only[Bool.and_eq_true,beq_iff_eq]at hq;rw[hq.1,hq.2])
     clear hq ne45
     go_wp2
     go_big_region_o
     go_wp2
     go_roundg (l.length-(i+1))
     case measure=>omega
     case rel=>exact⟨i+1,by first|rfl|go_num,by omega,Nat.le_refl _,HT2,G1.out.drew⟩
   ·have hltz: ¬(i:Int)<(l.length:Int):=by omega
    obtain rfl:i=l.length:=by omega
    have HT2:Hid (l=m):=a1F HLM.out HT.out
    go_wp2
    go_returns
    refine⟨?_,G1.out⟩
    rw[decide_eq_true HT2.out]
    rfl
 ·have hn:decide (l=m)=false:=decide_eq_false fun h=>hlm (by rw[h])
  rw[hn]
  have hd:((l.length:Int) !=(m.length:Int))=true:=by simp;omega
  clear hn ne45
  go_enter Try.func32,Try.ntmps32
  go_wp2
  go_returns
  exact⟨rfl,G0.out⟩
set_option maxHeartbeats 4000000 in
set_option maxRecDepth 100000 in
theorem a5y(l m:List (List Int))(A B:Loc)(w:World){lo hh lo' hh':Nat}(hl:l.length≤900)(hin: ∀x∈l,x.length≤900)(h1:hh≤w.heap.size)(h2:hh'≤w.heap.size)(hA:LstI lo hh w A l)(hB:LstI lo' hh' w B m):
  Calls Try.prog 29 #[.slice A.a l.length A.c,.slice B.a m.length B.c] w fun e w'=>e= .returned (.bool (decide (l=m)))∧Gr w w':=by
 have mixed:=a1L.mixed
 have HA:Aside (LstI lo hh w A l):=hA
 have HB:Aside (LstI lo' hh' w B m):=hB
 have H1:Aside _:=h1
 have H2:Aside _:=h2
 have G0:Aside _:=Gr.refl w
 have HIN:Aside _:=hin
 have h30:=fun l m a b c d w hl h1 h2 hA hB=>a3s l m a b c d w (lo:=lo) (hh:=hh) (lo':=lo') (hh':=hh') hl h1 h2 hA hB
 have H30:Aside _:=h30
 have e30:=enters_of Try.func30 (by kernel_rfl) rfl
 generalize hAa:A.a=aa
 generalize hBa:B.a=ba
 have HAA:Hid _:=hAa
 have HBA:Hid _:=hBa
 clear hA hB h1 h2 h30 hin hAa hBa
 by_cases hlm:l.length=m.length
 ·rw[←hlm]
  have HLM:Hid _:=hlm
  clear hlm
  go_enter Try.func29,Try.ntmps29
  go_wp2
  go_loopg [5] l.length (fun kx s5 wr=> ∃i:Nat,s5= .int .i64 i∧i≤l.length∧l.length-i≤kx∧Hid (l.take i=m.take i)∧Aside (Gr w wr))
  case atStart=>exact⟨0,rfl,Nat.zero_le _,Nat.le_refl _,Eq.refl _,G0⟩
  case round=>
   clear G0
   obtain⟨i,rfl,hi,hkx,HT,G1⟩:=hrel
   have wj:IntKind.i64.wrap ((i:Int)+1)=(i:Int)+1:=by rw[IntKind.wrap_i64];omega
   by_cases hlt:i<l.length
   ·have hltz:(i:Int)<(l.length:Int):=by omega
    have hlm2:i<m.length:=by rw[←HLM.out];exact hlt
    obtain⟨g,o,hg,ca⟩:=HA.out.rd hlt
    obtain⟨g',o',hg',cb⟩:=HB.out.rd hlm2
    rw[HAA.out]at hg
    rw[HBA.out]at hg'
    subst hg hg'
    have ra:=HA.out.e i _ (List.getElem?_eq_getElem hlt)
    have rb:=HB.out.e i _ (List.getElem?_eq_getElem hlm2)
    have lx:=HIN.out _ (List.getElem_mem hlt)
    obtain⟨x,hx⟩: ∃x,l[i]=x:=⟨_,rfl⟩
    obtain⟨y,hy⟩: ∃y,m[i]=y:=⟨_,rfl⟩
    rw[hx]at ca ra lx
    rw[hy]at cb rb
    have HX:Hid _:=hx
    have HY:Hid _:=hy
    have ca2: ∀q os,(grow (wr.drewN q) os).cell? ⟨g,o+i,none⟩=some (.slice (A.ad i) x.length (A.cp i)):=fun q os=>ca _ (Kp.gr (G1.out.trans ⟨q,os,rfl⟩) H1.out)
    have cb2: ∀q os,(grow (wr.drewN q) os).cell? ⟨g',o'+i,none⟩=some (.slice (B.ad i) y.length (B.cp i)):=fun q os=>cb _ (Kp.gr (G1.out.trans ⟨q,os,rfl⟩) H2.out)
    obtain⟨b,hb⟩: ∃b,decide (x=y)=b:=⟨_,rfl⟩
    have h30: ∀q os,Calls Try.prog 30 #[.slice (A.ad i) x.length (A.cp i),.slice (B.ad i) y.length (B.cp i)] (grow (wr.drewN q) os) fun e w'=>e= .returned (.bool b)∧Gr (grow (wr.drewN q) os) w':=fun q os=>by
     rw[←hb]
     have k1:=Kp.gr (G1.out.trans ⟨q,os,rfl⟩) H1.out (lo:=lo)
     have k2:=Kp.gr (G1.out.trans ⟨q,os,rfl⟩) H2.out (lo:=lo')
     have gs:=(G1.out.trans ⟨q,os,rfl⟩).le
     exact H30.out x y _ _ _ _ _ lx (Nat.le_trans H1.out gs) (Nat.le_trans H2.out gs) (RowsI.kp ra k1) (RowsI.kp rb k2)
    have HBb:Hid _:=hb
    have H30':Aside _:=h30
    clear hx hy ca cb ra rb lx hb h30
    have h30: ∀q os,Calls Try.prog 30 #[.slice (A.ad i) x.length (A.cp i),.slice (B.ad i) y.length (B.cp i)] (grow (wr.drewN q) os) fun e w'=>e= .returned (.bool b)∧Gr (grow (wr.drewN q) os) w':=H30'.out
    go_wp2
    refine wp_region_quiet_grown (by assumption) (by kernel_rfl) ?_
    repeat (go_big_quiet_step (first|(go_at_fn 30;exact Calls.grown_of (h30 _ _))|(go_at_call 30;exact Calls.grown_of (h30 _ _))))
    refine wpQuiet_nil ?_
    rintro _ ⟨⟨nq,osq⟩,rfl⟩
    have G2:Aside (Gr w (grow (wr.drewN nq) osq)):=G1.out.trans ⟨nq,osq,rfl⟩
    clear ca2 cb2 h30 H30' G1
    generalize grow (wr.drewN nq) osq=W2 at G2 ⊢
    cases b with
    |false=>
     go_wp2
     go_returns
     refine⟨?_,G2.out⟩
     rw[decide_eq_false]
     ·rfl
     ·refine a1J hlt (by rw[←HLM.out];exact hlt) ?_
      rw[HX.out,HY.out]
      exact of_decide_eq_false HBb.out
    |true=>
     have HT2:Hid (l.take (i+1)=m.take (i+1)):=a0m hlt (by rw[←HLM.out];exact hlt) HT.out (by rw[HX.out,HY.out];exact of_decide_eq_true HBb.out)
     go_wp2
     go_roundg (l.length-(i+1))
     case measure=>omega
     case rel=>exact⟨i+1,by first|rfl|go_num,by omega,Nat.le_refl _,HT2,G2⟩
   ·have hltz: ¬(i:Int)<(l.length:Int):=by omega
    obtain rfl:i=l.length:=by omega
    have HT2:Hid (l=m):=a1F HLM.out HT.out
    go_wp2
    go_returns
    refine⟨?_,G1.out⟩
    rw[decide_eq_true HT2.out]
    rfl
 ·have hn:decide (l=m)=false:=decide_eq_false fun h=>hlm (by rw[h])
  rw[hn]
  have hd:((l.length:Int) !=(m.length:Int))=true:=by simp;omega
  clear hn
  go_enter Try.func29,Try.ntmps29
  go_wp2
  go_returns
  exact⟨rfl,G0.out⟩
end Go.Proofs.Ytcblehiddfnafaa.canonSame
namespace Go.Proofs.Ytcblehiddfnafaa.canonSame
open Go.Shelf Go.RowKit Go.Lib Go.Sort
inductive Sy
 |val (v:Value)
 |ptr (i off:Nat)
def Sy.den(base:Nat→Nat):Sy→Value
 |.val v=>v
 |.ptr i off=>.pointer (some ⟨base i,off,none⟩)
inductive Cmp
 |int (eq:Bool) (a b:Int) (r:Bool)
 |bool (eq:Bool) (a b:Bool) (r:Bool)
def Cmp.ok:Cmp→Prop
 |.int true a b r=>(a==b)=r
 |.int false a b r=>(a !=b)=r
 |.bool true a b r=>(a==b)=r
 |.bool false a b r=>(a !=b)=r
def Cmp.all:List Cmp→Prop
 | []=>True
 |c::l=>c.ok∧Cmp.all l
def look(k:Nat):List (Nat×Sy)→Option Sy
 | []=>none
 |(j,s)::l=>if Nat.beq j k then some s else look k l
structure Ps where
 known:List (Nat×Sy)
 orc:List Bool
 cmps:List Cmp
def evS(l:List (Nat×Sy)):Operand→Option Sy
 |.tmp k=>look k l
 |.const v=>some (.val v)
 |_=>none
def b8A(op:BinOp)(t:TypeId)(x y:Option Sy)(orc:List Bool):Option (Sy×List Bool×List Cmp):=
 match op,t,x,y,orc with
 |.neq,3,some (.val (.int .i64 a)),some (.val (.int .i64 b)),r::o=>some (.val (.bool r),o,[.int false a b r])
 |.eql,3,some (.val (.int .i64 a)),some (.val (.int .i64 b)),r::o=>some (.val (.bool r),o,[.int true a b r])
 |.neq,4,some (.val (.bool a)),some (.val (.bool b)),r::o=>some (.val (.bool r),o,[.bool false a b r])
 |.eql,4,some (.val (.bool a)),some (.val (.bool b)),r::o=>some (.val (.bool r),o,[.bool true a b r])
 |_,_,_,_,_=>none
def b8O(sls:List Nat)(s:Ps)(c:Call):Option (Sy×List Bool×List Cmp):=
 match c.callee,c.args.toList,c.argTypes.toList with
 |.builtin .len,[x],[t]=>if sls.contains t then match evS s.known x with
  |some (.val (.slice _ n _))=>some (.val (.int .i64 n),s.orc,[])
  |_=>none
  else none
 |_,_,_=>none
def opP(fo:TypeId→Nat→Option Nat)(pls sls:List Nat)(cell:Nat→Nat→Option Value)(s:Ps)(op:Op):Option (Sy×List Bool×List Cmp):=
 match op with
 |.move x=>(evS s.known x).map (·,s.orc,[])
 |.assign x=>(evS s.known x).map (·,s.orc,[])
 |.pick c a b=>match evS s.known c with
  |some (.val (.bool true))=>(evS s.known a).map (·,s.orc,[])
  |some (.val (.bool false))=>(evS s.known b).map (·,s.orc,[])
  |_=>none
 |.fieldAddr t x f=>match evS s.known x with
  |some (.ptr i off)=>(fo t f).map fun k=>(.ptr i (off+k),s.orc,[])
  |_=>none
 |.load t x=>match evS s.known x with
  |some (.ptr i off)=>if pls.contains t then(cell i off).map fun v=>(.val v,s.orc,[])else none
  |_=>none
 |.binOp op t x y _=>b8A op t (evS s.known x) (evS s.known y) s.orc
 |.unOp .not _ x=>match evS s.known x with
  |some (.val (.bool b))=>some (.val (.bool !b),s.orc,[])
  |_=>none
 |.call c=>b8O sls s c
 |_=>none
def a5W(ops:List Oper)(s:Ps)(o:Oper):Option Bool:=
 match o.guard with
 |none=>some true
 |some (j,want)=>match((ops[j]?).bind (·.dst)).bind (look · s.known)with
  |some (.val (.bool b))=>some (b==want)
  |_=>none
def b1Y(fo:TypeId→Nat→Option Nat)(pls sls:List Nat)(cell:Nat→Nat→Option Value)(n m:Nat)(ops:List Oper)(s:Ps)(o:Oper):Option Ps:=
 match o.dst with
 |none=>none
 |some d=>if Nat.ble n d&&Nat.blt d m then match a5W ops s o with
   |none=>none
   |some false=>some {s with known:=(d,.val undef)::s.known}
   |some true=>(opP fo pls sls cell s o.op).map fun r=>⟨(d,r.1)::s.known,r.2.1,r.2.2++s.cmps⟩
  else none
def a6D(fo:TypeId→Nat→Option Nat)(pls sls:List Nat)(cell:Nat→Nat→Option Value)(n m:Nat)(ops:List Oper):Ps→List Oper→Option Ps
 |s,[]=>some s
 |s,o::rest=>match b1Y fo pls sls cell n m ops s o with
  |none=>none
  |some s'=>a6D fo pls sls cell n m ops s' rest
theorem Cmp.all_app: ∀{l m:List Cmp},Cmp.all (l++m)→Cmp.all l∧Cmp.all m
 | [],_,h=>⟨trivial,h⟩
 |_::_,_,h=>⟨⟨h.1,(Cmp.all_app h.2).1⟩,(Cmp.all_app h.2).2⟩
structure PF(P:Program)(fo:TypeId→Nat→Option Nat)(pls sls:List Nat):Prop where
 t3:P.underlying 3=some (.int .i64)
 t4:P.underlying 4=some .bool
 f: ∀s f k,fo s f=some k→ ∀(b off:Nat) (w:World),Sem.run P (Instr.fieldAt s (.pointer (some ⟨b,off,none⟩)) f) w= .ok (.pointer (some ⟨b,off+k,none⟩)) w
 l: ∀t,pls.contains t=true→ ∀(b off:Nat) (v:Value) (w:World),w.cell? ⟨b,off,none⟩=some v→Sem.run P (Instr.loadAt t (.pointer (some ⟨b,off,none⟩))) w= .ok v w
 s: ∀t,sls.contains t=true→ ∃e,P.underlying t=some (.slice e)
section
variable{P:Program}{fo:TypeId→Nat→Option Nat}{pls sls:List Nat}{cell:Nat→Nat→Option Value}{base:Nat→Nat}{w:World}
theorem a0h{l:List (Nat×Sy)}{a:Act}(h: ∀k s,look k l=some s→a.tmps[k]? =some (s.den base)){x:Operand}{s:Sy}(hx:evS l x=some s):a.eval x=s.den base:=by
 cases x with
 |tmp k=>
  have:=h k s hx
  show a.tmps.getD k undef=_
  rw[Array.getD_eq_getD_getElem?,this]
  rfl
 |const v=>
  simp only[evS,Option.some.injEq]at hx
  subst hx
  rfl
 |global _=>simp[evS]at hx
 |func _=>simp[evS]at hx
theorem b6L(F:PF P fo pls sls){op:BinOp}{t:TypeId}{x y:Operand}{sx sy:Option Sy}{orc:List Bool}{r:Sy×List Bool×List Cmp}(h:b8A op t sx sy orc=some r)(hc:Cmp.all r.2.2)(ρ:Operand→Value)(hx: ∀s,sx=some s→ρ x=s.den base)(hy: ∀s,sy=some s→ρ y=s.den base)(w:World):
  Sem.run P (do eqGuard op t x y (ρ x) (ρ y);binOp op t (ρ x) (ρ y)) w= .ok (r.1.den base) w:=by
 have u3:=F.t3
 have u4:=F.t4
 have q3:=run_underlying F.t3
 have q4:=run_underlying F.t4
 unfold b8A at h
 split at h
 ·simp only[Option.some.injEq]at h
  subst h
  rw[hx _ rfl,hy _ rfl]
  have:=hc.1
  simp only[Cmp.ok]at this
  simp only[Sy.den]
  go_simp
 ·simp only[Option.some.injEq]at h
  subst h
  rw[hx _ rfl,hy _ rfl]
  have:=hc.1
  simp only[Cmp.ok]at this
  simp only[Sy.den]
  go_simp
 ·simp only[Option.some.injEq]at h
  subst h
  rw[hx _ rfl,hy _ rfl]
  have:=hc.1
  simp only[Cmp.ok]at this
  simp only[Sy.den]
  go_simp
  rename_i a b r o
  rw[←this]
  cases a<;>cases b<;>rfl
 ·simp only[Option.some.injEq]at h
  subst h
  rw[hx _ rfl,hy _ rfl]
  have:=hc.1
  simp only[Cmp.ok]at this
  simp only[Sy.den]
  go_simp
 ·cases h
theorem b5F(F:PF P fo pls sls)(hC: ∀i off v,cell i off=some v→w.cell? ⟨base i,off,none⟩=some v){s:Ps}{a:Act}(h: ∀k s',look k s.known=some s'→a.tmps[k]? =some (s'.den base)){o:Oper}{r:Sy×List Bool×List Cmp}(ho:opP fo pls sls cell s o.op=some r)(hc:Cmp.all r.2.2):
  Sem.run P (execOp a.eval o) w= .ok (.value (r.1.den base)) w:=by
 unfold opP at ho
 split at ho
 ·rename_i x hop
  simp only[Option.map_eq_some_iff]at ho
  obtain⟨y,hy,rfl⟩:=ho
  unfold execOp
  simp only[hop,Sem.run_pure,a0h h hy]
 ·rename_i x hop
  simp only[Option.map_eq_some_iff]at ho
  obtain⟨y,hy,rfl⟩:=ho
  unfold execOp
  simp only[hop,Sem.run_pure,a0h h hy]
 ·rename_i c x y hop
  split at ho
  ·rename_i hcc
   simp only[Option.map_eq_some_iff]at ho
   obtain⟨z,hz,rfl⟩:=ho
   unfold execOp
   simp only[hop,a0h h hz,a0h h hcc,Sy.den]
   rfl
  ·rename_i hcc
   simp only[Option.map_eq_some_iff]at ho
   obtain⟨z,hz,rfl⟩:=ho
   unfold execOp
   simp only[hop,a0h h hz,a0h h hcc,Sy.den]
   rfl
  ·cases ho
 ·rename_i t x f hop
  split at ho
  ·rename_i i off hx
   simp only[Option.map_eq_some_iff]at ho
   obtain⟨k,hk,rfl⟩:=ho
   unfold execOp
   simp only[hop,a0h h hx,Sy.den,Sem.run_bind,F.f t f k hk,Result.andThen_ok,Sem.run_pure]
  ·cases ho
 ·rename_i t x hop
  split at ho
  ·rename_i i off hx
   split at ho
   ·rename_i ht
    simp only[Option.map_eq_some_iff]at ho
    obtain⟨v,hv,rfl⟩:=ho
    unfold execOp
    simp only[hop,a0h h hx,Sy.den,Sem.run_bind,F.l t ht _ _ _ _ (hC _ _ _ hv),Result.andThen_ok,Sem.run_pure]
   ·cases ho
  ·cases ho
 ·rename_i op t x y p hop
  have:=b6L (base:=base) (x:=x) (y:=y) F ho hc a.eval (fun s hs=>a0h h hs) (fun s hs=>a0h h hs) w
  unfold execOp
  simp only[hop]
  rw[Sem.run_bind,this]
  rfl
 ·rename_i q x hop
  split at ho
  ·rename_i b hx
   simp only[Option.some.injEq]at ho
   subst ho
   unfold execOp
   simp only[hop,a0h h hx,Sy.den]
   rfl
  ·cases ho
 ·rename_i c hop
  unfold b8O at ho
  split at ho
  ·rename_i x t hcal harg hty
   have harg':c.args= #[x]:=by simpa using congrArg List.toArray harg
   have hty':c.argTypes= #[t]:=by simpa using congrArg List.toArray hty
   split at ho
   ·rename_i hct
    obtain⟨e,ht⟩:=F.s t hct
    have qt:=run_underlying ht
    split at ho
    ·rename_i ad n cc hx
     simp only[Option.some.injEq]at ho
     subst ho
     unfold execOp
     simp only[hop,hcal,harg',hty',resolve,invoke,builtin,Sem.run_bind,Sem.run_pure,Result.andThen_ok,List.map_toArray,List.map_cons,List.map_nil,a0h h hx,Sy.den]
     go_simp
    ·cases ho
   ·cases ho
  ·cases ho
 ·cases ho
theorem a2q{opsA:Array Oper}{s:Ps}{a:Act}(h: ∀k s',look k s.known=some s'→a.tmps[k]? =some (s'.den base)){o:Oper}{b:Bool}(hw:a5W opsA.toList s o=some b):Region.wanted o (yielded opsA a.tmps)=b:=by
 unfold a5W at hw
 unfold Region.wanted
 split at hw
 ·rename_i hg
  rw[hg]
  simpa using hw
 ·rename_i j want hg
  rw[hg]
  split at hw
  ·rename_i bb hb
   simp only[Option.some.injEq]at hw
   subst hw
   have e:yielded opsA a.tmps j=some bb:=by
    unfold yielded
    rw[Array.getElem?_toList]at hb
    cases hd:(opsA[j]?).bind (·.dst)with
    |none=>rw[hd]at hb;cases hb
    |some d=>
     rw[hd]at hb
     rw[Option.bind_some]at hb ⊢
     rw[h d _ hb]
     rfl
   show(yielded opsA a.tmps j==some want)=_
   rw[e]
   cases bb<;>cases want<;>rfl
  ·cases hw
theorem a4t(F:PF P fo pls sls)(hC: ∀i off v,cell i off=some v→w.cell? ⟨base i,off,none⟩=some v){opsA:Array Oper}{n m:Nat}{Q:Exit→Act→World→Prop}{tail:List Oper}: ∀{ops:List Oper} {s sf:Ps} {a:Act},a6D fo pls sls cell n m opsA.toList s ops=some sf→Cmp.all sf.cmps→a.tmps.size=m→(∀k s',look k s.known=some s'→a.tmps[k]? =some (s'.den base))→
  (∀a',a'.defers=a.defers→a'.tmps.size=m→(∀k,k<n→a'.tmps[k]? =a.tmps[k]?)→(∀k s',look k sf.known=some s'→a'.tmps[k]? =some (s'.den base))→wpList P opsA Q tail a' w)→Cmp.all s.cmps∧wpList P opsA Q (ops++tail) a w
 | [],s,sf,a,hr,hc,hm,h,K=>by
  simp only[a6D,Option.some.injEq]at hr
  subst hr
  exact⟨hc,K a rfl hm (fun _ _=>rfl) h⟩
 |o::ops,s,sf,a,hr,hc,hm,h,K=>by
  simp only[a6D]at hr
  split at hr
  ·cases hr
  ·rename_i s' hs
   unfold b1Y at hs
   split at hs
   ·cases hs
   ·rename_i d hd
    split at hs
    ·rename_i hnm
     simp only[Bool.and_eq_true]at hnm
     have h1:n≤d:=Nat.le_of_ble_eq_true hnm.1
     have h2:d<m:=by
      have:=hnm.2
      unfold Nat.blt at this
      exact Nat.le_of_ble_eq_true this
     have key: ∀(y:Sy) (s2:Ps),s2.known=(d,y)::s.known→a6D fo pls sls cell n m opsA.toList s2 ops=some sf→Cmp.all s2.cmps∧wpList P opsA Q (ops++tail) (a.put o.dst (y.den base)) w:=by
      intro y s2 hk2 hr2
      have hput:(a.put o.dst (y.den base))={a with tmps:=a.tmps.setIfInBounds d (y.den base)}:=by
       unfold Act.put
       rw[hd]
      rw[hput]
      refine a4t F hC hr2 hc (by simpa using hm) (fun k s' hl=> ?_) (fun a' e1 e2 e3 e4=>K a' e1 e2 (fun k hk=> ?_) e4)
      ·rw[hk2]at hl
       simp only[look]at hl
       simp only[Array.getElem?_setIfInBounds]
       split at hl
       ·rename_i hbe
        injection hl with hl
        subst hl
        have:=Nat.eq_of_beq_eq_true hbe
        subst this
        rw[if_pos rfl,if_pos (show d<a.tmps.size from by rw[hm];exact h2)]
       ·rename_i hbe
        have:d≠k:=fun e=>hbe (by rw[e];exact Nat.beq_refl k)
        rw[if_neg this]
        exact h k s' hl
      ·rw[e3 k hk]
       simp only[Array.getElem?_setIfInBounds]
       rw[if_neg (by omega)]
     split at hs
     ·cases hs
     ·rename_i hw
      simp only[Option.some.injEq]at hs
      subst hs
      obtain⟨c1,c2⟩:=key (.val undef) _ rfl hr
      refine⟨c1, ?_⟩
      rw[List.cons_append]
      unfold wpList
      rw[a2q h hw,if_neg (by decide)]
      exact c2
     ·rename_i hw
      simp only[Option.map_eq_some_iff]at hs
      obtain⟨r,hop,rfl⟩:=hs
      obtain⟨c1,c2⟩:=key r.1 _ rfl hr
      obtain⟨c3,c4⟩:=Cmp.all_app c1
      refine⟨c4, ?_⟩
      rw[List.cons_append]
      unfold wpList
      rw[a2q h hw,if_pos rfl]
      left
      unfold Oper.wp
      rw[b5F F hC h hop c3]
      exact c2
    ·cases hs
theorem b0F(F:PF P fo pls sls)(hC: ∀i off v,cell i off=some v→w.cell? ⟨base i,off,none⟩=some v){id:Nat}{opsL:List Oper}{l:List Value}{df:List Deferred}{J:Act→World→Prop}{Q:Exit→Act→World→Prop}(known:List (Nat×Sy))(orc:List Bool)(n d:Nat){cmps:List Cmp}{v:Value}
  (hrun:(a6D fo pls sls cell n l.length opsL ⟨known,orc,[]⟩ opsL).map (fun s=>(s.cmps,look d s.known))=some (cmps,some (.val v))) (hk: ∀k s,look k known=some s→l[k]? =some (s.den base)) (hc:Cmp.all cmps)
  (K: ∀us,us.length=l.length-n→(l.take n++us)[d]? =some v→J ⟨(l.take n++us).toArray,df⟩ w):Code.wp P (.region id opsL.toArray false) (Exit.then J Q) ⟨l.toArray,df⟩ w:=by
 refine wp_region_list ?_
 cases hr:a6D fo pls sls cell n l.length opsL ⟨known,orc,[]⟩ opsL with
 |none=>rw[hr]at hrun;cases hrun
 |some sf=>
  rw[hr]at hrun
  simp only[Option.map_some,Option.some.injEq,Prod.mk.injEq]at hrun
  obtain⟨h1,h2⟩:=hrun
  subst h1
  have e0:opsL=opsL++ []:=by simp
  show wpList P opsL.toArray _ opsL _ _
  conv=>arg 4;rw[e0]
  refine(a4t (opsA:=opsL.toArray) (tail:=[]) F hC (m:=l.length) (n:=n) hr hc (by simp) (fun k s' hl=>by simpa using hk k s' hl) (fun a' e1 e2 e3 e4=> ?_)).2
  show Exit.then J Q .normal a' w
  have e5:a'.tmps.toList=l.take n++a'.tmps.toList.drop n:=by
   conv=>lhs;rw[←List.take_append_drop n a'.tmps.toList]
   congr 1
   apply List.ext_getElem?
   intro k
   rw[List.getElem?_take,List.getElem?_take]
   split
   ·rename_i hkn
    have:=e3 k hkn
    simpa using this
   ·rfl
  have e6:=K (a'.tmps.toList.drop n) (by simp[e2]) (by
   rw[←e5]
   have:=e4 d _ h2
   simp only[Sy.den]at this
   simpa using this)
  rw[←e5]at e6
  have e7:a'=⟨a'.tmps.toList.toArray,df⟩:=by
   cases a'
   simp only at e1
   rw[e1]
  rw[e7]
  exact e6
theorem a0F(F:PF P fo pls sls)(hC: ∀i off v,cell i off=some v→w.cell? ⟨base i,off,none⟩=some v){id:Nat}{opsL:List Oper}{l:List Value}{df:List Deferred}{J:Act→World→Prop}{Q:Exit→Act→World→Prop}(known:List (Nat×Sy))(orc:List Bool)(n d:Nat){cmps:List Cmp}{v:Value}
  (hrun:(a6D fo pls sls cell n l.length opsL ⟨known,orc,[]⟩ opsL).map (fun s=>(s.cmps,look d s.known))=some (cmps,some (.val v))) (hk: ∀k s,look k known=some s→l[k]? =some (s.den base)) (hc:Cmp.all cmps) (hn:Nat.ble n d=true) (hd:Nat.blt d l.length=true)
  (K: ∀us,us.length=d-n→ ∀us',us'.length=l.length-(d+1)→J ⟨(l.take n++(us++v::us')).toArray,df⟩ w):Code.wp P (.region id opsL.toArray false) (Exit.then J Q) ⟨l.toArray,df⟩ w:=by
 refine b0F F hC known orc n d hrun hk hc (fun us hus hv=> ?_)
 have h1:=Nat.le_of_ble_eq_true hn
 have h2:d<l.length:=by
  unfold Nat.blt at hd
  exact Nat.le_of_ble_eq_true hd
 have h3:us[d-n]? =some v:=by
  rw[List.getElem?_append_right (by rw[List.length_take];omega),List.length_take,Nat.min_eq_left (by omega)]at hv
  exact hv
 have h4:us=us.take (d-n)++v::us.drop (d-n+1):=by
  obtain⟨hi,e⟩:=List.getElem?_eq_some_iff.1 h3
  conv=>lhs;rw[←List.take_append_drop (d-n) us,List.drop_eq_getElem_cons hi,e]
 rw[h4]
 exact K _ (by rw[List.length_take];omega) _ (by rw[List.length_drop];omega)
theorem a7K(F:PF P fo pls sls)(hC: ∀i off v,cell i off=some v→w.cell? ⟨base i,off,none⟩=some v){id:Nat}{opsL:List Oper}{l:List Value}{df:List Deferred}{Q:Exit→Act→World→Prop}(p:Nat)(known:List (Nat×Sy))(orc:List Bool)(n:Nat)(ds:List Nat){cmps:List Cmp}{vs:List Value}
  (hrun:(a6D fo pls sls cell n l.length opsL ⟨known,orc,[]⟩ (opsL.take p)).map (fun s=>(s.cmps,ds.map fun d=>look d s.known))=some (cmps,vs.map fun v=>some (.val v))) (hk: ∀k s,look k known=some s→l[k]? =some (s.den base)) (hc:Cmp.all cmps)
  (K: ∀us,us.length=l.length-n→(ds.map fun d=>(l.take n++us)[d]?)=vs.map some→wpList P opsL.toArray Q (opsL.drop p) ⟨(l.take n++us).toArray,df⟩ w):Code.wp P (.region id opsL.toArray false) Q ⟨l.toArray,df⟩ w:=by
 refine wp_region_list ?_
 cases hr:a6D fo pls sls cell n l.length opsL ⟨known,orc,[]⟩ (opsL.take p)with
 |none=>rw[hr]at hrun;cases hrun
 |some sf=>
  rw[hr]at hrun
  simp only[Option.map_some,Option.some.injEq,Prod.mk.injEq]at hrun
  obtain⟨h1,h2⟩:=hrun
  subst h1
  have e0:opsL=opsL.take p++opsL.drop p:=by simp
  show wpList P opsL.toArray _ opsL _ _
  conv=>arg 4;rw[e0]
  refine(a4t (opsA:=opsL.toArray) (tail:=opsL.drop p) F hC (m:=l.length) (n:=n) hr hc (by simp) (fun k s' hl=>by simpa using hk k s' hl) (fun a' e1 e2 e3 e4=> ?_)).2
  have e5:a'.tmps.toList=l.take n++a'.tmps.toList.drop n:=by
   conv=>lhs;rw[←List.take_append_drop n a'.tmps.toList]
   congr 1
   apply List.ext_getElem?
   intro k
   rw[List.getElem?_take,List.getElem?_take]
   split
   ·rename_i hkn
    have:=e3 k hkn
    simpa using this
   ·rfl
  have e6:=K (a'.tmps.toList.drop n) (by simp[e2]) (by
   rw[←e5]
   clear K hr e5 e3
   induction ds generalizing vs with
   |nil=>cases vs with
    |nil=>rfl
    |cons v vs=>simp at h2
   |cons d ds ih=>cases vs with
    |nil=>simp at h2
    |cons v vs=>
     simp only[List.map_cons,List.cons.injEq]at h2 ⊢
     refine⟨?_,ih h2.2⟩
     have:=e4 d _ h2.1
     simp only[Sy.den]at this
     simpa using this)
  rw[←e5]at e6
  have e7:a'=⟨a'.tmps.toList.toArray,df⟩:=by
   cases a'
   simp only at e1
   rw[e1]
  rw[e7]
  exact e6
end
end Go.Proofs.Ytcblehiddfnafaa.canonSame
namespace Go.Proofs.Ytcblehiddfnafaa.canonSame
open Go.Shelf Go.RowKit Go.Lib Go.Sort
theorem a1G{α:Type}[BEq α][LawfulBEq α]{x y:α}(h:(x !=y)=false):x=y:=by simpa using h
theorem b3Z(W:World)(y X Y:List Value)(t:TypeId)(hX:X.length=y.length)(hY:Y.length=y.length):Gr W ((((W.alloc (.cells y.toArray t)).alloc (.cells y.toArray t)).setCells W.heap.size 0 X).setCells (W.heap.size+1) 0 Y)∧((((W.alloc (.cells y.toArray t)).alloc (.cells y.toArray t)).setCells W.heap.size 0 X).setCells (W.heap.size+1) 0 Y).heap[W.heap.size]? =some (.cells X.toArray t)∧((((W.alloc (.cells y.toArray t)).alloc (.cells y.toArray t)).setCells W.heap.size 0 X).setCells (W.heap.size+1) 0 Y).heap[W.heap.size+1]? =some (.cells Y.toArray t):=by
 obtain⟨g,h1,h2⟩:=a0W W y y t t
 refine⟨Gr.sets (W:=W) _ (Nat.le_succ _) _ _ (Gr.sets (W:=W) _ (Nat.le_refl _) _ _ g), ?_, ?_⟩
 ·rw[a0R (by omega)]
  exact a0Y h1 X hX
 ·exact a0Y ((a0R (by omega) _ _).trans h2) Y hY
theorem b0m(W:World)(y X Y:List Value)(t:TypeId)(hX:X.length=y.length)(hY:Y.length=y.length):Gr W ((((W.alloc (.cells y.toArray t)).alloc (.cells y.toArray t)).setCells (W.heap.size+1) 0 X).setCells W.heap.size 0 Y)∧((((W.alloc (.cells y.toArray t)).alloc (.cells y.toArray t)).setCells (W.heap.size+1) 0 X).setCells W.heap.size 0 Y).heap[W.heap.size+1]? =some (.cells X.toArray t)∧((((W.alloc (.cells y.toArray t)).alloc (.cells y.toArray t)).setCells (W.heap.size+1) 0 X).setCells W.heap.size 0 Y).heap[W.heap.size]? =some (.cells Y.toArray t):=by
 obtain⟨g,h1,h2⟩:=a0W W y y t t
 refine⟨Gr.sets (W:=W) _ (Nat.le_refl _) _ _ (Gr.sets (W:=W) _ (Nat.le_succ _) _ _ g), ?_, ?_⟩
 ·rw[a0R (by omega)]
  exact a0Y h2 X hX
 ·exact a0Y ((a0R (by omega) _ _).trans h1) Y hY
set_option maxHeartbeats 16000000 in
set_option maxRecDepth 100000 in
theorem a5z{P:Program}{k29 k31 k41 k43 k45 k66 k97:Nat}{y29 y31 y41 y43 y45 y66 y97:List Value}(L:LayS P k29 k31 k41 k43 k45 k66 k97 y29 y31 y41 y43 y45 y66 y97)(hk:k43=7)(hy3:y43.length=k43)(f31:P.funcs[31]? =some Try.f31)(e32: ∀args w,(callFunc 32 args).run P w= .ok (.enter 32 args) w)
  (h32: ∀(l m:List (Int×Int)) (a b:Option Addr) (c d:Nat) (w:World) (lo hh lo' hh':Nat) (_:l.length≤900) (_:hh≤w.heap.size) (_:hh'≤w.heap.size) (_:a9n lo hh w a l) (_:a9n lo' hh' w b m),Calls P 32 #[.slice a l.length c,.slice b m.length d] w fun e w'=>e= .returned (.bool (decide (l=m)))∧Gr w w')
  (l m:List Itm) (A B':Loc) (w:World) {lo hh lo' hh':Nat} (hl:l.length≤900) (hin: ∀x∈l,x.ts.length≤900) (h1:hh≤w.heap.size) (h2:hh'≤w.heap.size) (hA:ItsI lo hh w A l) (hB:ItsI lo' hh' w B' m):
  Calls P 31 #[.slice A.a l.length A.c,.slice B'.a m.length B'.c] w fun e w'=>e= .returned (.bool (decide (l=m)))∧Gr w w':=by
 have mixed:=L.mixed;have t3:=L.t3;have a3:=L.a3;have z3:=L.z3;have v3:=L.v3;have qu3:=run_underlying L.t3;have t4:=L.t4;have a4:=L.a4;have z4:=L.z4;have t26:=L.t26;have a26:=L.a26;have z26:=L.z26;have qu26:=run_underlying L.t26;have t27:=L.t27;have a27:=L.a27;have z27:=L.z27;have qu27:=run_underlying L.t27;have qu43:=run_underlying L.t43;have a43:=L.a43;have z43:=L.z43;have v43:=L.v43
 have HA:Aside (ItsI lo hh w A l):=hA
 have HB:Aside (ItsI lo' hh' w B' m):=hB
 have H1:Aside _:=h1
 have H2:Aside _:=h2
 have G0:Aside _:=Gr.refl w
 have HIN:Aside _:=hin
 have H32:Aside _:=h32
 have HK:Hid (k43=7):=hk
 have kb1: ¬16777216<k43:=by omega
 have kb2: ¬k43=0:=by omega
 generalize hAa:A.a=aa
 generalize hBa:B'.a=ba
 generalize hAc:A.c=ac
 generalize hBc:B'.c=bc
 have HAA:Hid _:=hAa
 have HBA:Hid _:=hBa
 clear hA hB h1 h2 hin h32 hAa hBa hAc hBc hk
 by_cases hlm:l.length=m.length
 ·rw[←hlm]
  have HLM:Hid _:=hlm
  clear hlm
  go_enter f31,Try.ntmps31
  go_wp2
  go_loopg [5] l.length (fun kx s5 wr=> ∃i:Nat,s5= .int .i64 i∧i≤l.length∧l.length-i≤kx∧Hid (l.take i=m.take i)∧Aside (Gr w wr))
  case atStart=>exact⟨0,rfl,Nat.zero_le _,Nat.le_refl _,Eq.refl _,G0⟩
  case round=>
   clear G0
   obtain⟨i,rfl,hi,hkx,HT,G1⟩:=hrel
   have wj:IntKind.i64.wrap ((i:Int)+1)=(i:Int)+1:=by rw[IntKind.wrap_i64];omega
   by_cases hlt:i<l.length
   ·have hltz:(i:Int)<(l.length:Int):=by omega
    have hlm2:i<m.length:=by rw[←HLM.out];exact hlt
    obtain⟨B,O,hg,_,_,ca⟩:=HA.out.ld P hlt rfl
    obtain⟨B2,O2,hg',_,_,cb⟩:=HB.out.ld P hlm2 rfl
    rw[HAA.out]at hg
    rw[HBA.out]at hg'
    subst hg hg'
    have ra:=HA.out.e i _ (List.getElem?_eq_getElem hlt)
    have rb:=HB.out.e i _ (List.getElem?_eq_getElem hlm2)
    have lx:=HIN.out _ (List.getElem_mem hlt)
    obtain⟨x,hx⟩: ∃x,l[i]=x:=⟨_,rfl⟩
    obtain⟨y,hy⟩: ∃y,m[i]=y:=⟨_,rfl⟩
    rw[hx]at ca ra lx
    rw[hy]at cb rb
    have HX:Hid _:=hx
    have HY:Hid _:=hy
    have lX: ∀W,Gr wr W→Sem.run P (loadCellsFrom ⟨B,O+i*k43,none⟩ 0 k43 #[]) W= .ok (a0f x (.slice (A.ad i) x.ts.length (A.cp i))).toArray W:=fun W hW=>by rw[HK.out];exact ca W (Kp.gr (G1.out.trans hW) H1.out)
    have lY: ∀W,Gr wr W→Sem.run P (loadCellsFrom ⟨B2,O2+i*k43,none⟩ 0 k43 #[]) W= .ok (a0f y (.slice (B'.ad i) y.ts.length (B'.cp i))).toArray W:=fun W hW=>by rw[HK.out];exact cb W (Kp.gr (G1.out.trans hW) H2.out)
    have hcall: ∀W,Gr wr W→Calls P 32 #[.slice (A.ad i) x.ts.length (A.cp i),.slice (B'.ad i) y.ts.length (B'.cp i)] W fun e w'=>e= .returned (.bool (decide (x.ts=y.ts)))∧Gr W w':=fun W hW=>
     H32.out x.ts y.ts _ _ _ _ W lo hh lo' hh' lx (Nat.le_trans H1.out (G1.out.trans hW).le) (Nat.le_trans H2.out (G1.out.trans hW).le) (RowsI.kp ra (Kp.gr (G1.out.trans hW) H1.out)) (RowsI.kp rb (Kp.gr (G1.out.trans hW) H2.out))
    have HC:Aside _:=hcall
    have x01:=a2M x (.slice (A.ad i) x.ts.length (A.cp i)) rfl
    have y01:=a2M y (.slice (B'.ad i) y.ts.length (B'.cp i)) rfl
    generalize hX0:a0f x (.slice (A.ad i) x.ts.length (A.cp i))=X0 at lX x01
    generalize hY0:a0f y (.slice (B'.ad i) y.ts.length (B'.cp i))=Y0 at lY y01
    have LX:Aside _:=lX
    have LY:Aside _:=lY
    have HX0:Hid _:=hX0
    have HY0:Hid _:=hY0
    have x0l:X0.length=k43:=by rw[HK.out,←hX0];rfl
    have y0l:Y0.length=k43:=by rw[HK.out,←hY0];rfl
    clear hx hy ca cb ra rb lx lX lY hcall hX0 hY0
    go_upto_region 6 with fail
    go_cut [6,7]from 19 to 74 (fun s6 s7 wc=> ∃b6 b7:Nat,s6= .pointer (some ⟨b6,0,none⟩)∧s7= .pointer (some ⟨b7,0,none⟩)∧Aside (Gr wr wc)∧Aside (wc.heap[b6]? =some (.cells X0.toArray 43))∧Aside (wc.heap[b7]? =some (.cells Y0.toArray 43)))
    case first=>
     have OB0:Gr wr wr.drew:=(Gr.refl _).drew
     refine wp_region_held_drew (S:=fun W=>Gr wr W) mixed OB0 (fun hHeld=> ?_)
     generalize wr.drew=U at OB0 hHeld ⊢
     refine wtk (i:=0) (v:=.slice (some ⟨B,O,none⟩) l.length ac) hHeld ?_ ?_
     ·intro W hW
      clear hW hHeld OB0
      go_simp
     simp only[Act.put,px]
     refine wtk (i:=1) (v:=.int .i64 i) hHeld ?_ ?_
     ·intro W hW
      clear hW hHeld OB0
      go_simp
     simp only[Act.put,px]
     refine wtk (i:=2) (v:=.pointer (some ⟨B,O+i*k43,none⟩)) hHeld ?_ ?_
     ·intro W hW
      clear hW hHeld OB0
      go_simp
     simp only[Act.put,px]
     refine wtk (i:=3) (v:=.agg X0.toArray) hHeld ?_ ?_
     ·intro W hW
      have lX:=LX.out W hW
      clear hW hHeld OB0
      go_simp
     simp only[Act.put,px]
     refine wtk (i:=4) (v:=.slice (some ⟨B2,O2,none⟩) l.length bc) hHeld ?_ ?_
     ·intro W hW
      clear hW hHeld OB0
      go_simp
     simp only[Act.put,px]
     refine wtk (i:=5) (v:=.int .i64 i) hHeld ?_ ?_
     ·intro W hW
      clear hW hHeld OB0
      go_simp
     simp only[Act.put,px]
     refine wtk (i:=6) (v:=.pointer (some ⟨B2,O2+i*k43,none⟩)) hHeld ?_ ?_
     ·intro W hW
      clear hW hHeld OB0
      go_simp
     simp only[Act.put,px]
     refine wtk (i:=7) (v:=.agg Y0.toArray) hHeld ?_ ?_
     ·intro W hW
      have lY:=LY.out W hW
      clear hW hHeld OB0
      go_simp
     simp only[Act.put,px]
     obtain⟨ga,ha1,ha2⟩:=b3Z U y43 X0 Y0 43 (x0l.trans hy3.symm) (y0l.trans hy3.symm)
     obtain⟨gb,hb1,hb2⟩:=b0m U y43 X0 Y0 43 (x0l.trans hy3.symm) (y0l.trans hy3.symm)
     have GA:Aside (Gr U _):=ga
     have HA1:Aside _:=ha1
     have HA2:Aside _:=ha2
     have GB:Aside (Gr U _):=gb
     have HB1:Aside _:=hb1
     have HB2:Aside _:=hb2
     obtain⟨gz,hz1,hz2⟩:=a0W U y43 y43 43 43
     have sa1:=a0P P (a0A hz1) X0 (x0l.trans hy3.symm) x01
     have sa2:=a0P P (a0A ((a0R (b:=U.heap.size+1) (c:=U.heap.size) (by omega) X0 0).trans hz2)) Y0 (y0l.trans hy3.symm) y01
     have sb1:=a0P P (a0A hz2) X0 (x0l.trans hy3.symm) x01
     have sb2:=a0P P (a0A ((a0R (b:=U.heap.size) (c:=U.heap.size+1) (by omega) X0 0).trans hz1)) Y0 (y0l.trans hy3.symm) y01
     have g1:Gr wr (U.alloc (.cells y43.toArray 43)):=OB0.alloc _
     have g2:Gr wr ((U.alloc (.cells y43.toArray 43)).alloc (.cells y43.toArray 43)):=g1.alloc _
     have ga3:=Gr.sets (W:=(U.alloc (.cells y43.toArray 43)).alloc (.cells y43.toArray 43)) U.heap.size OB0.le X0 0 g2
     have gb3:=Gr.sets (W:=(U.alloc (.cells y43.toArray 43)).alloc (.cells y43.toArray 43)) (U.heap.size+1) (Nat.le_succ_of_le OB0.le) X0 0 g2
     clear ga ha1 ha2 gb hb1 hb2 gz hz1 hz2
     refine wpAnyH_ready (rs:=[8,9]) (by kernel_rfl) (by simp) ?_
     refine AllReadyH.cons rfl (fun K hK=> ?_) (AllReadyH.cons rfl (fun K hK=> ?_) AllReadyH.nil)
     ·go_simp
      refine hK.out _ _ g1 (fun hHeld=> ?_)
      clear hK K
      refine wrd 9 fun K hK=> ?_
      go_simp
      refine hK.out _ _ g2 (fun hHeld=> ?_)
      clear hK K
      refine wrd 10 fun K hK=> ?_
      go_simp
      refine hK.out _ _ ga3 (fun hHeld=> ?_)
      clear hK K
      refine wrd 11 fun K hK=> ?_
      go_simp
      refine hK.out _ _ (OB0.trans GA.out) (fun hHeld=> ?_)
      clear hK K
      refine wpAnyH_done (by kernel_rfl) ?_ _
      have OBM:Aside (Gr wr U):=OB0
      clear OB0
      go_wp2
      go_meet
      case rel=>exact⟨_,_,rfl,rfl,OBM.out.trans GA.out,HA1.out,HA2.out⟩
     ·go_simp
      refine hK.out _ _ g1 (fun hHeld=> ?_)
      clear hK K
      refine wrd 8 fun K hK=> ?_
      go_simp
      refine hK.out _ _ g2 (fun hHeld=> ?_)
      clear hK K
      refine wrd 10 fun K hK=> ?_
      go_simp
      refine hK.out _ _ gb3 (fun hHeld=> ?_)
      clear hK K
      refine wrd 11 fun K hK=> ?_
      go_simp
      refine hK.out _ _ (OB0.trans GB.out) (fun hHeld=> ?_)
      clear hK K
      refine wpAnyH_done (by kernel_rfl) ?_ _
      have OBM:Aside (Gr wr U):=OB0
      clear OB0
      go_wp2
      go_meet
      case rel=>exact⟨_,_,rfl,rfl,OBM.out.trans GB.out,HB1.out,HB2.out⟩
    case rest=>
     obtain⟨b6,b7,rfl,rfl,G2,J6,J7⟩:=hcut
     have G3:Aside (Gr w wc):=G1.out.trans G2.out
     have hc:=HC.out wc G2.out
     clear LX LY x01 y01 HC
     obtain⟨x0,x1,x2,x3,x4,x5,xt⟩:=x
     obtain⟨y0,y1,y2,y3,y4,y5,yt⟩:=y
     have cx0:=a0B (a0A J6.out) (j:=0) (v:=.int .i64 x0) (by rw[←HX0.out];rfl)
     have cy0:=a0B (a0A J7.out) (j:=0) (v:=.int .i64 y0) (by rw[←HY0.out];rfl)
     have cx1:=a0B (a0A J6.out) (j:=1) (v:=.int .i64 x1) (by rw[←HX0.out];rfl)
     have cy1:=a0B (a0A J7.out) (j:=1) (v:=.int .i64 y1) (by rw[←HY0.out];rfl)
     have cx2:=a0B (a0A J6.out) (j:=2) (v:=.int .i64 x2) (by rw[←HX0.out];rfl)
     have cy2:=a0B (a0A J7.out) (j:=2) (v:=.int .i64 y2) (by rw[←HY0.out];rfl)
     have cx3:=a0B (a0A J6.out) (j:=3) (v:=.int .i64 x3) (by rw[←HX0.out];rfl)
     have cy3:=a0B (a0A J7.out) (j:=3) (v:=.int .i64 y3) (by rw[←HY0.out];rfl)
     have cx4:=a0B (a0A J6.out) (j:=4) (v:=.int .i64 x4) (by rw[←HX0.out];rfl)
     have cy4:=a0B (a0A J7.out) (j:=4) (v:=.int .i64 y4) (by rw[←HY0.out];rfl)
     have cx5:=a0B (a0A J6.out) (j:=5) (v:=.int .i64 x5) (by rw[←HX0.out];rfl)
     have cy5:=a0B (a0A J7.out) (j:=5) (v:=.int .i64 y5) (by rw[←HY0.out];rfl)
     have cx6:=a0B (a0A J6.out) (j:=6) (v:=.slice (A.ad i) xt.length (A.cp i)) (by rw[←HX0.out];rfl)
     have cy6:=a0B (a0A J7.out) (j:=6) (v:=.slice (B'.ad i) yt.length (B'.cp i)) (by rw[←HY0.out];rfl)
     change Calls P 32 #[.slice (A.ad i) xt.length (A.cp i),.slice (B'.ad i) yt.length (B'.cp i)] wc (fun e w'=>e= .returned (.bool (decide (xt=yt)))∧Gr wc w')at hc
     have HC2:Aside (Calls P 32 #[.slice (A.ad i) xt.length (A.cp i),.slice (B'.ad i) yt.length (B'.cp i)] wc (fun e w'=>e= .returned (.bool (decide (xt=yt)))∧Gr wc w')):=hc
     clear J6 J7 HX0 HY0 x0l y0l hc
     cases q0:(x0 !=y0)with
     |true=>
      have HQ:Hid _:=q0
      go_wp2
      go_returns
      refine⟨?_,G3.out⟩
      rw[decide_eq_false]
      ·rfl
      ·refine a1J hlt hlm2 ?_
       rw[HX.out,HY.out]
       have:=HQ.out
       intro h
       injection h with e0 e1 e2 e3 e4 e5 e6
       rw[e0]at this
       simp at this
     |false=>
      cases q1:(x1 !=y1)with
      |true=>
       have HQ:Hid _:=q1
       go_wp2
       go_returns
       refine⟨?_,G3.out⟩
       rw[decide_eq_false]
       ·rfl
       ·refine a1J hlt hlm2 ?_
        rw[HX.out,HY.out]
        have:=HQ.out
        intro h
        injection h with e0 e1 e2 e3 e4 e5 e6
        rw[e1]at this
        simp at this
      |false=>
       cases q2:(x2 !=y2)with
       |true=>
        have HQ:Hid _:=q2
        go_wp2
        go_returns
        refine⟨?_,G3.out⟩
        rw[decide_eq_false]
        ·rfl
        ·refine a1J hlt hlm2 ?_
         rw[HX.out,HY.out]
         have:=HQ.out
         intro h
         injection h with e0 e1 e2 e3 e4 e5 e6
         rw[e2]at this
         simp at this
       |false=>
        cases q3:(x3 !=y3)with
        |true=>
         have HQ:Hid _:=q3
         go_wp2
         go_returns
         refine⟨?_,G3.out⟩
         rw[decide_eq_false]
         ·rfl
         ·refine a1J hlt hlm2 ?_
          rw[HX.out,HY.out]
          have:=HQ.out
          intro h
          injection h with e0 e1 e2 e3 e4 e5 e6
          rw[e3]at this
          simp at this
        |false=>
         cases q4:(x4 !=y4)with
         |true=>
          have HQ:Hid _:=q4
          go_wp2
          go_returns
          refine⟨?_,G3.out⟩
          rw[decide_eq_false]
          ·rfl
          ·refine a1J hlt hlm2 ?_
           rw[HX.out,HY.out]
           have:=HQ.out
           intro h
           injection h with e0 e1 e2 e3 e4 e5 e6
           rw[e4]at this
           simp at this
         |false=>
          cases q5:(x5 !=y5)with
          |true=>
           have HQ:Hid _:=q5
           go_wp2
           go_returns
           refine⟨?_,G3.out⟩
           rw[decide_eq_false]
           ·rfl
           ·refine a1J hlt hlm2 ?_
            rw[HX.out,HY.out]
            have:=HQ.out
            intro h
            injection h with e0 e1 e2 e3 e4 e5 e6
            rw[e5]at this
            simp at this
          |false=>
           cases q6:decide (xt=yt)with
           |false=>
            have hc:=HC2.out
            rw[q6]at hc
            have HQ:Hid _:=q6
            clear q6 HC2
            go_wp2_with (go_at_fn 32;refine hc.mono ?_;rintro e w2 ⟨rfl,hg⟩;have G4:Aside (Gr w w2):=G3.out.trans hg;clear hg)
            go_returns
            refine⟨?_,G4.out⟩
            rw[decide_eq_false]
            ·rfl
            ·refine a1J hlt hlm2 ?_
             rw[HX.out,HY.out]
             have:=of_decide_eq_false HQ.out
             intro h
             injection h with _ _ _ _ _ _ h
             exact this h
           |true=>
            have hc:=HC2.out
            rw[q6]at hc
            have HT2:Hid (l.take (i+1)=m.take (i+1)):=a0m hlt hlm2 HT.out (by rw[HX.out,HY.out,a1G q0,a1G q1,a1G q2,a1G q3,a1G q4,a1G q5,of_decide_eq_true q6])
            clear q6 HC2
            go_wp2_with (go_at_fn 32;refine hc.mono ?_;rintro e w2 ⟨rfl,hg⟩;have G4:Aside (Gr w w2):=G3.out.trans hg;clear hg)
            go_roundg (l.length-(i+1))
            case measure=>omega
            case rel=>exact⟨i+1,by first|rfl|go_num,by omega,Nat.le_refl _,HT2,G4⟩
   ·have hltz: ¬(i:Int)<(l.length:Int):=by omega
    obtain rfl:i=l.length:=by omega
    have HT2:Hid (l=m):=a1F HLM.out HT.out
    go_wp2
    go_returns
    refine⟨?_,G1.out⟩
    rw[decide_eq_true HT2.out]
    rfl
 ·have hn:decide (l=m)=false:=decide_eq_false fun h=>hlm (by rw[h])
  rw[hn]
  have hd:((l.length:Int) !=(m.length:Int))=true:=by simp;omega
  clear hn
  go_enter f31,Try.ntmps31
  go_wp2
  go_returns
  exact⟨rfl,G0.out⟩
end Go.Proofs.Ytcblehiddfnafaa.canonSame
namespace Go.Proofs.Ytcblehiddfnafaa.canonSame
open Go.Shelf Go.RowKit Go.Lib Go.Sort
def foS(s f:Nat):Option Nat:=
 if Nat.beq s 41&&Nat.blt f 14 then some f
 else if Nat.beq s 43&&Nat.blt f 7 then some f
 else if Nat.beq s 29&&Nat.blt f 5 then some f
 else if Nat.beq s 31&&Nat.blt f 19 then some f
 else if Nat.beq s 31&&Nat.blt f 21 then some (f+4)
 else none
def plS:List Nat:=[3,4,22,23,24,25,26,27,39]
theorem a9j{a b:Nat}(h:Nat.blt a b=true):a<b:=Nat.le_of_ble_eq_true h
theorem pfS{P:Program}{k29 k31 k41 k43 k45 k66 k97:Nat}{y29 y31 y41 y43 y45 y66 y97:List Value}(L:LayS P k29 k31 k41 k43 k45 k66 k97 y29 y31 y41 y43 y45 y66 y97)(hk0: ¬k29=0):PF P foS plS [22,23,24,25,26,27,39] where
 t3:=L.t3
 t4:=L.t4
 f:=by
  intro s f k h b off w
  have z3:=L.z3;have z4:=L.z4;have z22:=L.z22;have z23:=L.z23;have z24:=L.z24;have z25:=L.z25;have z26:=L.z26;have z27:=L.z27;have z39:=L.z39;have z29:=L.z29
  have q41:=run_underlying L.t41;have q43:=run_underlying L.t43;have q29:=run_underlying L.t29;have q31:=run_underlying L.t31
  unfold foS at h
  split at h
  ·rename_i hc
   simp only[Bool.and_eq_true]at hc
   obtain rfl:=Nat.eq_of_beq_eq_true hc.1
   have hf:=a9j hc.2
   injection h with h
   subst h
   clear hc
   obtain rfl|rfl|rfl|rfl|rfl|rfl|rfl|rfl|rfl|rfl|rfl|rfl|rfl|rfl:f=0∨f=1∨f=2∨f=3∨f=4∨f=5∨f=6∨f=7∨f=8∨f=9∨f=10∨f=11∨f=12∨f=13:=by omega
   all_goals go_simp
  ·split at h
   ·rename_i hc
    simp only[Bool.and_eq_true]at hc
    obtain rfl:=Nat.eq_of_beq_eq_true hc.1
    have hf:=a9j hc.2
    injection h with h
    subst h
    clear hc
    obtain rfl|rfl|rfl|rfl|rfl|rfl|rfl:f=0∨f=1∨f=2∨f=3∨f=4∨f=5∨f=6:=by omega
    all_goals go_simp
   ·split at h
    ·rename_i hc
     simp only[Bool.and_eq_true]at hc
     obtain rfl:=Nat.eq_of_beq_eq_true hc.1
     have hf:=a9j hc.2
     injection h with h
     subst h
     clear hc
     obtain rfl|rfl|rfl|rfl|rfl:f=0∨f=1∨f=2∨f=3∨f=4:=by omega
     all_goals go_simp
    ·split at h
     ·rename_i hc
      simp only[Bool.and_eq_true]at hc
      obtain rfl:=Nat.eq_of_beq_eq_true hc.1
      have hf:=a9j hc.2
      injection h with h
      subst h
      clear hc
      obtain rfl|rfl|rfl|rfl|rfl|rfl|rfl|rfl|rfl|rfl|rfl|rfl|rfl|rfl|rfl|rfl|rfl|rfl|rfl:f=0∨f=1∨f=2∨f=3∨f=4∨f=5∨f=6∨f=7∨f=8∨f=9∨f=10∨f=11∨f=12∨f=13∨f=14∨f=15∨f=16∨f=17∨f=18:=by omega
      all_goals go_simp
     ·split at h
      ·rename_i hn hc
       simp only[Bool.and_eq_true]at hc
       obtain rfl:=Nat.eq_of_beq_eq_true hc.1
       have hf:=a9j hc.2
       have hg: ¬f<19:=fun hl=>hn (by simp only[Bool.and_eq_true];exact⟨rfl,Nat.ble_eq_true_of_le hl⟩)
       injection h with h
       subst h
       clear hc hn
       obtain rfl|rfl:f=19∨f=20:=by omega
       all_goals go_simp
      ·cases h
 l:=by
  intro t h b off v w hc
  have a3:=L.a3;have a4:=L.a4;have a22:=L.a22;have a23:=L.a23;have a24:=L.a24;have a25:=L.a25;have a26:=L.a26;have a27:=L.a27;have a39:=L.a39
  have z3:=L.z3;have z4:=L.z4;have z22:=L.z22;have z23:=L.z23;have z24:=L.z24;have z25:=L.z25;have z26:=L.z26;have z27:=L.z27;have z39:=L.z39
  have h':t∈plS:=by simpa using h
  simp only[plS,List.mem_cons,List.not_mem_nil,or_false]at h'
  rcases h' with rfl|rfl|rfl|rfl|rfl|rfl|rfl|rfl|rfl
  all_goals go_simp
 s:=by
  intro t h
  have h':t∈ [22,23,24,25,26,27,39]:=by simpa using h
  simp only[List.mem_cons,List.not_mem_nil,or_false]at h'
  rcases h' with rfl|rfl|rfl|rfl|rfl|rfl|rfl
  ·exact⟨_,L.t22⟩
  ·exact⟨_,L.t23⟩
  ·exact⟨_,L.t24⟩
  ·exact⟨_,L.t25⟩
  ·exact⟨_,L.t26⟩
  ·exact⟨_,L.t27⟩
  ·exact⟨_,L.t39⟩
theorem a1C{k i j:Nat}{s0 s1 s:Sy}(h:look k [(i,s0),(j,s1)]=some s):(k=i∧s=s0)∨(k=j∧s=s1):=by
 simp only[look]at h
 split at h
 ·rename_i hb
  injection h with h
  exact .inl ⟨(Nat.eq_of_beq_eq_true hb).symm,h.symm⟩
 ·split at h
  ·rename_i hb
   injection h with h
   exact .inr ⟨(Nat.eq_of_beq_eq_true hb).symm,h.symm⟩
  ·cases h
def b5O(X Y:List Value)(i off:Nat):Option Value:=match i with
 |0=>X[off]?
 |1=>Y[off]?
 |_=>none
def b6b(a b:Nat)(i:Nat):Nat:=match i with
 |0=>a
 |_=>b
theorem a3Q{w:World}{a b:Nat}{X Y:List Value}{t u:TypeId}(h1:w.heap[a]? =some (.cells X.toArray t))(h2:w.heap[b]? =some (.cells Y.toArray u)): ∀i off v,b5O X Y i off=some v→w.cell? ⟨b6b a b i,off,none⟩=some v:=by
 intro i off v h
 match i with
 |0=>exact a0B (a0A h1) h
 |1=>exact a0B (a0A h2) h
 |i+2=>cases h
theorem a4c(us:List Value){n:Nat}(h:us.length=n):us=(List.range n).map fun i=>us.getD i undef:=by
 apply List.ext_getElem (by simp[h])
 intro i h1 h2
 simp[h1]
theorem b2J{C:List Value→Prop}(h:C [])(us:List Value)(hu:us.length=0):C us:=by
 rw[List.eq_nil_of_length_eq_zero hu]
 exact h
theorem b8m{C:List Value→Prop}(h: ∀u0 u1 u2 u3 u4 u5 u6 u7 u8 u9 u10 u11 u12 u13 u14 u15 u16 u17 u18 u19 u20 u21 u22 u23 u24 u25 u26 u27 u28 u29 u30 u31 u32 u33 u34 u35 u36 u37 u38 u39 u40 u41 u42 u43 u44 u45 u46 u47 u48 u49 u50 u51 u52 u53 u54 u55 u56 u57 u58 u59 u60 u61 u62 u63 u64 u65 u66 u67 u68 u69 u70 u71 u72 u73 u74 u75 u76 u77 u78 u79 u80 u81 u82 u83 u84 u85 u86 u87 u88 u89 u90 u91 u92 u93 u94 u95 u96,C [u0,u1,u2,u3,u4,u5,u6,u7,u8,u9,u10,u11,u12,u13,u14,u15,u16,u17,u18,u19,u20,u21,u22,u23,u24,u25,u26,u27,u28,u29,u30,u31,u32,u33,u34,u35,u36,u37,u38,u39,u40,u41,u42,u43,u44,u45,u46,u47,u48,u49,u50,u51,u52,u53,u54,u55,u56,u57,u58,u59,u60,u61,u62,u63,u64,u65,u66,u67,u68,u69,u70,u71,u72,u73,u74,u75,u76,u77,u78,u79,u80,u81,u82,u83,u84,u85,u86,u87,u88,u89,u90,u91,u92,u93,u94,u95,u96])(us:List Value)(hu:us.length=97):C us:=by
 rw[a4c us hu]
 exact h ..
theorem b8n{C:List Value→Prop}(h: ∀u0 u1 u2 u3 u4 u5 u6 u7 u8 u9 u10 u11 u12 u13 u14 u15 u16 u17,C [u0,u1,u2,u3,u4,u5,u6,u7,u8,u9,u10,u11,u12,u13,u14,u15,u16,u17])(us:List Value)(hu:us.length=18):C us:=by
 rw[a4c us hu]
 exact h ..
theorem b4U{C:List Value→Prop}(h: ∀u0 u1 u2 u3 u4 u5 u6 u7 u8 u9 u10 u11 u12 u13 u14 u15 u16 u17 u18 u19 u20 u21 u22 u23 u24 u25 u26 u27 u28 u29 u30 u31 u32,C [u0,u1,u2,u3,u4,u5,u6,u7,u8,u9,u10,u11,u12,u13,u14,u15,u16,u17,u18,u19,u20,u21,u22,u23,u24,u25,u26,u27,u28,u29,u30,u31,u32])(us:List Value)(hu:us.length=33):C us:=by
 rw[a4c us hu]
 exact h ..
theorem b4T{C:List Value→Prop}(h: ∀u0 u1 u2 u3 u4 u5 u6 u7 u8 u9 u10 u11 u12 u13 u14 u15 u16 u17 u18 u19 u20 u21 u22 u23 u24 u25 u26 u27 u28 u29 u30 u31 u32 u33 u34 u35 u36 u37 u38 u39 u40 u41 u42 u43 u44 u45 u46 u47 u48 u49 u50 u51 u52 u53 u54 u55 u56 u57 u58 u59 u60 u61 u62 u63 u64 u65 u66 u67 u68 u69 u70 u71 u72 u73 u74,C [u0,u1,u2,u3,u4,u5,u6,u7,u8,u9,u10,u11,u12,u13,u14,u15,u16,u17,u18,u19,u20,u21,u22,u23,u24,u25,u26,u27,u28,u29,u30,u31,u32,u33,u34,u35,u36,u37,u38,u39,u40,u41,u42,u43,u44,u45,u46,u47,u48,u49,u50,u51,u52,u53,u54,u55,u56,u57,u58,u59,u60,u61,u62,u63,u64,u65,u66,u67,u68,u69,u70,u71,u72,u73,u74])(us:List Value)(hu:us.length=75):C us:=by
 rw[a4c us hu]
 exact h ..
theorem a3B{C:List Value→Prop}(h: ∀u0 u1 u2 u3 u4 u5 u6 u7 u8 u9 u10 u11 u12 u13 u14 u15 u16 u17 u18 u19 u20 u21 u22 u23 u24 u25 u26 u27 u28 u29 u30 u31 u32 u33 u34 u35 u36 u37 u38 u39 u40 u41 u42 u43 u44 u45 u46 u47 u48 u49 u50 u51 u52 u53 u54 u55 u56 u57 u58 u59 u60 u61 u62 u63 u64 u65 u66 u67 u68 u69 u70 u71 u72 u73 u74 u75 u76 u77 u78 u79 u80 u81 u82 u83 u84 u85 u86 u87 u88 u89 u90 u91 u92 u93 u94 u95 u96 u97 u98 u99 u100 u101 u102 u103 u104 u105 u106 u107 u108 u109 u110 u111 u112 u113 u114 u115 u116 u117 u118 u119 u120 u121 u122 u123 u124 u125 u126 u127 u128 u129 u130 u131 u132 u133 u134 u135 u136 u137 u138 u139 u140 u141 u142 u143 u144 u145 u146 u147 u148 u149 u150 u151 u152 u153 u154 u155 u156 u157 u158 u159 u160 u161 u162 u163 u164 u165 u166 u167 u168 u169 u170 u171 u172 u173 u174 u175 u176 u177 u178 u179 u180 u181 u182 u183 u184 u185 u186 u187 u188 u189 u190 u191 u192 u193 u194 u195 u196 u197 u198 u199 u200 u201 u202,C [u0,u1,u2,u3,u4,u5,u6,u7,u8,u9,u10,u11,u12,u13,u14,u15,u16,u17,u18,u19,u20,u21,u22,u23,u24,u25,u26,u27,u28,u29,u30,u31,u32,u33,u34,u35,u36,u37,u38,u39,u40,u41,u42,u43,u44,u45,u46,u47,u48,u49,u50,u51,u52,u53,u54,u55,u56,u57,u58,u59,u60,u61,u62,u63,u64,u65,u66,u67,u68,u69,u70,u71,u72,u73,u74,u75,u76,u77,u78,u79,u80,u81,u82,u83,u84,u85,u86,u87,u88,u89,u90,u91,u92,u93,u94,u95,u96,u97,u98,u99,u100,u101,u102,u103,u104,u105,u106,u107,u108,u109,u110,u111,u112,u113,u114,u115,u116,u117,u118,u119,u120,u121,u122,u123,u124,u125,u126,u127,u128,u129,u130,u131,u132,u133,u134,u135,u136,u137,u138,u139,u140,u141,u142,u143,u144,u145,u146,u147,u148,u149,u150,u151,u152,u153,u154,u155,u156,u157,u158,u159,u160,u161,u162,u163,u164,u165,u166,u167,u168,u169,u170,u171,u172,u173,u174,u175,u176,u177,u178,u179,u180,u181,u182,u183,u184,u185,u186,u187,u188,u189,u190,u191,u192,u193,u194,u195,u196,u197,u198,u199,u200,u201,u202])(us:List Value)(hu:us.length=203):C us:=by
 rw[a4c us hu]
 exact h ..
theorem b7I{C:List Value→Prop}(h: ∀u0 u1 u2 u3 u4 u5 u6 u7 u8 u9 u10 u11 u12 u13 u14 u15 u16 u17 u18 u19 u20 u21 u22 u23 u24 u25 u26 u27 u28 u29 u30 u31 u32 u33 u34 u35 u36 u37 u38 u39 u40 u41 u42 u43 u44 u45 u46 u47 u48 u49 u50 u51 u52 u53 u54 u55 u56 u57 u58 u59 u60 u61 u62 u63 u64 u65 u66 u67 u68 u69 u70 u71 u72 u73 u74 u75 u76 u77 u78 u79 u80 u81 u82 u83 u84 u85 u86 u87 u88 u89 u90 u91 u92 u93 u94 u95 u96 u97 u98 u99 u100 u101 u102 u103 u104 u105 u106 u107 u108,C [u0,u1,u2,u3,u4,u5,u6,u7,u8,u9,u10,u11,u12,u13,u14,u15,u16,u17,u18,u19,u20,u21,u22,u23,u24,u25,u26,u27,u28,u29,u30,u31,u32,u33,u34,u35,u36,u37,u38,u39,u40,u41,u42,u43,u44,u45,u46,u47,u48,u49,u50,u51,u52,u53,u54,u55,u56,u57,u58,u59,u60,u61,u62,u63,u64,u65,u66,u67,u68,u69,u70,u71,u72,u73,u74,u75,u76,u77,u78,u79,u80,u81,u82,u83,u84,u85,u86,u87,u88,u89,u90,u91,u92,u93,u94,u95,u96,u97,u98,u99,u100,u101,u102,u103,u104,u105,u106,u107,u108])(us:List Value)(hu:us.length=109):C us:=by
 rw[a4c us hu]
 exact h ..
end Go.Proofs.Ytcblehiddfnafaa.canonSame
