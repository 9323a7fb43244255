/-
  The stable sort's functions: what is asked; swapRange, rotate.
-/
import Derived.Test.YtcblehiddfnafaaProg
import Derived.Shelf.SlSortCmp.KitK
import Derived.KernelRfl
import Derived.Test.YtcblehiddfnafaaTxA
namespace Go.Proofs.Ytcblehiddfnafaa.canonSame
open Go.Shelf Go.RowKit Go.Lib Go.Sort
variable{α:Type}[Inhabited α]
structure Lay(P:Program)(k:Nat):Prop where
 mixed:P.follows .mixedOrders=true
 f77:P.funcs[77]? =some Try.f77
 f78:P.funcs[78]? =some Try.f78
 f81:P.funcs[81]? =some Try.f81
 f82:P.funcs[82]? =some Try.f82
 f67:P.funcs[67]? =some Try.f67
 f35:P.funcs[35]? =some Try.f35
 t0:P.underlying 0=some (TypeDesc.tuple #[])
 a0: ∀w,(isAgg 0).run P w= .ok false w
 z0: ∀w,(Go.sizeOf 0).run P w= .ok 1 w
 v0: ∀w,(zeroValue 0).run P w= .ok (Value.tuple #[]) w
 t3:P.underlying 3=some (TypeDesc.int IntKind.i64)
 a3: ∀w,(isAgg 3).run P w= .ok false w
 z3: ∀w,(Go.sizeOf 3).run P w= .ok 1 w
 v3: ∀w,(zeroValue 3).run P w= .ok (Value.int IntKind.i64 0) w
 t4:P.underlying 4=some (TypeDesc.bool)
 a4: ∀w,(isAgg 4).run P w= .ok false w
 z4: ∀w,(Go.sizeOf 4).run P w= .ok 1 w
 v4: ∀w,(zeroValue 4).run P w= .ok (Value.bool false) w
 t23:P.underlying 23=some (TypeDesc.slice 41)
 a23: ∀w,(isAgg 23).run P w= .ok false w
 z23: ∀w,(Go.sizeOf 23).run P w= .ok 1 w
 v23: ∀w,(zeroValue 23).run P w= .ok (Value.slice none 0 0) w
 t111:P.underlying 111=some (TypeDesc.int IntKind.u64)
 a111: ∀w,(isAgg 111).run P w= .ok false w
 z111: ∀w,(Go.sizeOf 111).run P w= .ok 1 w
 v111: ∀w,(zeroValue 111).run P w= .ok (Value.int IntKind.u64 0) w
 t74:P.underlying 74=some (TypeDesc.func #[41,41] #[3] false)
 a74: ∀w,(isAgg 74).run P w= .ok false w
 z74: ∀w,(Go.sizeOf 74).run P w= .ok 1 w
 v74: ∀w,(zeroValue 74).run P w= .ok (Value.nilFunc) w
 aE: ∀w,(isAgg 41).run P w= .ok true w
 zE: ∀w,(Go.sizeOf 41).run P w= .ok k w
theorem lay:Lay Try.prog 14 where
 mixed:=by kernel_rfl
 f77:=Try.func77
 f78:=Try.func78
 f81:=Try.func81
 f82:=Try.func82
 f67:=Try.func67
 f35:=Try.func35
 t0:=Try.underlying0
 a0:=Try.isAgg0
 z0:=Try.sizeOf0
 v0:=Try.zeroValue0
 t3:=Try.underlying3
 a3:=Try.isAgg3
 z3:=Try.sizeOf3
 v3:=Try.zeroValue3
 t4:=Try.underlying4
 a4:=Try.isAgg4
 z4:=Try.sizeOf4
 v4:=Try.zeroValue4
 t23:=Try.underlying23
 a23:=Try.isAgg23
 z23:=Try.sizeOf23
 v23:=Try.zeroValue23
 t111:=Try.underlying111
 a111:=Try.isAgg111
 z111:=Try.sizeOf111
 v111:=Try.zeroValue111
 t74:=Try.underlying74
 a74:=Try.isAgg74
 z74:=Try.sizeOf74
 v74:=Try.zeroValue74
 aE:=Try.isAgg41
 zE:=Try.sizeOf41
set_option maxHeartbeats 4000000 in
set_option maxRecDepth 1000000 in
theorem a5t{P:Program}{k:Nat}(L:Lay P k)(enc:α→List Value)(blk off cap a b n:Nat)(cv:Value)(d0 d:Array α)(w0 w:World)(R:RowK enc k w0 blk off d0)(hs:d0.size=d.size)(S:SWK enc k w0 blk off d w)(ha:a+n≤d.size)(hb:b+n≤d.size)(hsz:d.size<4611686018427387904):
  Calls P 82 #[.slice (some ⟨blk,off,none⟩) d.size cap,.int .i64 a,.int .i64 b,.int .i64 n,cv] w fun e w'=>
   e= .returned (.tuple #[])∧SWK enc k w0 blk off (swr d a b n) w':=by
 have mixed:=L.mixed;have t0:=L.t0;have a0:=L.a0;have z0:=L.z0;have v0:=L.v0;have t3:=L.t3;have a3:=L.a3;have z3:=L.z3;have v3:=L.v3;have t4:=L.t4;have a4:=L.a4;have z4:=L.z4;have v4:=L.v4;have t23:=L.t23;have a23:=L.a23;have z23:=L.z23;have v23:=L.v23;have t111:=L.t111;have a111:=L.a111;have z111:=L.z111;have v111:=L.v111;have t74:=L.t74;have a74:=L.a74;have z74:=L.z74;have v74:=L.v74;have aE:=L.aE;have zE:=L.zE
 have S0:Aside _:=S
 clear S
 go_enter L.f82,Try.ntmps82
 go_wp2
 go_loopg [10] n (fun kx s10 wr=> ∃(i:Nat) (dk:Array α),s10= .int .i64 i∧i≤n∧n-i≤kx∧dk.size=d.size∧Aside (SWK enc k w0 blk off dk wr)∧Hid (dk=swr d a b i))
 case atStart=>exact⟨0,d,rfl,Nat.zero_le _,Nat.le_refl _,rfl,S0,rfl⟩
 case round=>
  obtain⟨i,dk,rfl,hi,hkx,hds,S1,HE⟩:=hrel
  clear S0
  by_cases hlt:i<n
  ·have hltz:(i:Int)<(n:Int):=by omega
   have ea:((a:Int)+(i:Int)).toNat=a+i:=by omega
   have pa:(0:Int)≤(a:Int)+(i:Int):=by omega
   have ba:(a:Int)+(i:Int)<(d.size:Int):=by omega
   have ra:IntKind.i64.wrap ((a:Int)+(i:Int))=(a:Int)+(i:Int):=by rw[IntKind.wrap_i64];omega
   have ec:((b:Int)+(i:Int)).toNat=b+i:=by omega
   have pc:(0:Int)≤(b:Int)+(i:Int):=by omega
   have bc:(b:Int)+(i:Int)<(d.size:Int):=by omega
   have rc:IntKind.i64.wrap ((b:Int)+(i:Int))=(b:Int)+(i:Int):=by rw[IntKind.wrap_i64];omega
   have S2:Aside (SWK enc k w0 blk off (swp dk (a+i) (b+i)) ((wr.drew.setCells blk (off+(a+i)*k) (enc dk[b+i]!)).setCells blk (off+(b+i)*k) (enc dk[a+i]!))):=S1.out.swapped R (a+i) (b+i) (by omega) (by omega)
   have la:=S1.out.ld1 R (by omega) P (a+i) (by omega)
   have lb:=S1.out.ld1 R (by omega) P (b+i) (by omega)
   have sa:=S1.out.st1 R (by omega) P (a+i) (by omega) dk[b+i]!
   have sb:=S1.out.st2 R (by omega) P (a+i) (b+i) (by omega) (by omega) dk[b+i]! dk[a+i]!
   have na:(enc dk[a+i]!).length=k:=R.hk _
   have nb:(enc dk[b+i]!).length=k:=R.hk _
   generalize enc dk[a+i]! =cI at S2 la sb na
   generalize enc dk[b+i]! =cJ at S2 lb sa sb nb
   clear S1
   go_wp2_with fail
   go_big_region_o
   clear la lb sa sb
   generalize (wr.drew.setCells blk (off+(a+i)*k) cJ).setCells blk (off+(b+i)*k) cI=w2 at S2 ⊢
   go_wp2_with fail
   go_roundg (n-(i+1))
   case measure=>omega
   case rel=>exact⟨i+1,swp dk (a+i) (b+i),by go_num,by omega,Nat.le_refl _,by rw[size_swp];exact hds,S2,(show _=_ by rw[HE.out,swr])⟩
  ·have hltz: ¬(i:Int)<(n:Int):=by omega
   go_wp2
   go_end0
   have e:i=n:=by omega
   subst e
   rw[←HE.out]
   exact⟨rfl,S1.out⟩
set_option maxHeartbeats 4000000 in
set_option maxRecDepth 1000000 in
theorem b2X{P:Program}{k:Nat}(L:Lay P k)(enc:α→List Value)(blk off cap a m b:Nat)(cv:Value)(d0 d:Array α)(w0 w:World)(R:RowK enc k w0 blk off d0)(hs:d0.size=d.size)(S:SWK enc k w0 blk off d w)(ham:a<m)(hmb:m<b)(hb:b≤d.size)(hsz:d.size<4611686018427387904):
  Calls P 81 #[.slice (some ⟨blk,off,none⟩) d.size cap,.int .i64 a,.int .i64 m,.int .i64 b,cv] w fun e w'=>
   e= .returned (.tuple #[])∧ ∃d',Rot a m b d d'∧SWK enc k w0 blk off d' w':=by
 have mixed:=L.mixed;have t0:=L.t0;have a0:=L.a0;have z0:=L.z0;have v0:=L.v0;have t3:=L.t3;have a3:=L.a3;have z3:=L.z3;have v3:=L.v3;have t4:=L.t4;have a4:=L.a4;have z4:=L.z4;have v4:=L.v4;have t23:=L.t23;have a23:=L.a23;have z23:=L.z23;have v23:=L.v23;have t111:=L.t111;have a111:=L.a111;have z111:=L.z111;have v111:=L.v111;have t74:=L.t74;have a74:=L.a74;have z74:=L.z74;have v74:=L.v74;have aE:=L.aE;have zE:=L.zE
 have e82: ∀args w,(callFunc 82 args).run P w= .ok (.enter 82 args) w:=enters_of L.f82 (by kernel_rfl) rfl
 have S0:Aside _:=S
 clear S
 have rm:IntKind.i64.wrap ((m:Int)-(a:Int))=(m:Int)-(a:Int):=by rw[IntKind.wrap_i64];omega
 have rb:IntKind.i64.wrap ((b:Int)-(m:Int))=(b:Int)-(m:Int):=by rw[IntKind.wrap_i64];omega
 go_enter L.f81,Try.ntmps81
 go_wp2
 go_loopg [10,11] (b-a) (fun kx s10 s11 wr=> ∃(i j:Nat) (dk:Array α),s10= .int .i64 i∧s11= .int .i64 j∧0<i∧0<j∧i≤m∧m+j≤d.size∧i+j≤kx∧dk.size=d.size∧Aside (SWK enc k w0 blk off dk wr)∧Hid (∀d',Rot (m-i) m (m+j) dk d'→Rot a m b d d'))
 case atStart=>
  refine⟨m-a,b-m,d, ?_, ?_,by omega,by omega,by omega,by omega,by omega,rfl,S0,fun d' h=> ?_⟩
  ·congr 1
   omega
  ·congr 1
   omega
  ·rw[show m-(m-a)=a by omega,show m+(b-m)=b by omega]at h
   exact h
 case round=>
  obtain⟨i,j,dk,rfl,rfl,hi,hj,him,hjm,hkx,hds,S1,HE⟩:=hrel
  clear S0
  have ri:IntKind.i64.wrap ((m:Int)-(i:Int))=(m:Int)-(i:Int):=by rw[IntKind.wrap_i64];omega
  by_cases hij:i=j
  ·subst hij
   have hc:=a5t L enc blk off cap (m-i) m i cv d0 dk w0 wr R (by omega) S1.out (by omega) (by omega) (by omega)
   rw[show((m-i:Nat):Int)=(m:Int)-(i:Int)by omega,hds]at hc
   clear S1
   go_wp2_with (go_at_fn 82;refine hc.mono ?_;rintro e w1 ⟨rfl,S2⟩)
   go_end0
   exact⟨rfl,_,HE.out _ (b5f him (by omega)),S2⟩
  ·have hijz: ¬((i:Int)=(j:Int)):=by omega
   rcases Nat.lt_or_ge j i with h|h
   ·have hz:(j:Int)<(i:Int):=by omega
    have r2:IntKind.i64.wrap ((i:Int)-(j:Int))=(i:Int)-(j:Int):=by rw[IntKind.wrap_i64];omega
    have hc:=a5t L enc blk off cap (m-i) m j cv d0 dk w0 wr R (by omega) S1.out (by omega) (by omega) (by omega)
    rw[show((m-i:Nat):Int)=(m:Int)-(i:Int)by omega,hds]at hc
    clear S1
    go_wp2_with (go_at_fn 82;refine hc.mono ?_;rintro e w1 ⟨rfl,S2⟩)
    go_roundg (i-j+j)
    case measure=>omega
    case rel=>
     refine⟨i-j,j,swr dk (m-i) m j, ?_,rfl,by omega,hj,by omega,hjm,by omega,by rw[a2U];exact hds,S2,fun d' h'=> ?_⟩
     ·congr 1
      omega
     ·rw[show m-(i-j)=m-i+j by omega]at h'
      exact HE.out _ (b2V h him (by omega) h')
   ·have hz: ¬((j:Int)<(i:Int)):=by omega
    have r2:IntKind.i64.wrap ((j:Int)-(i:Int))=(j:Int)-(i:Int):=by rw[IntKind.wrap_i64];omega
    have r3:IntKind.i64.wrap ((m:Int)+(j:Int))=(m:Int)+(j:Int):=by rw[IntKind.wrap_i64];omega
    have r4:IntKind.i64.wrap ((m:Int)+(j:Int)-(i:Int))=(m:Int)+(j:Int)-(i:Int):=by rw[IntKind.wrap_i64];omega
    have hc:=a5t L enc blk off cap (m-i) (m+j-i) i cv d0 dk w0 wr R (by omega) S1.out (by omega) (by omega) (by omega)
    rw[show((m-i:Nat):Int)=(m:Int)-(i:Int)by omega,show((m+j-i:Nat):Int)=(m:Int)+(j:Int)-(i:Int)by omega,hds]at hc
    clear S1
    go_wp2_with (go_at_fn 82;refine hc.mono ?_;rintro e w1 ⟨rfl,S2⟩)
    go_roundg (j-i+i)
    case measure=>omega
    case rel=>
     refine⟨i,j-i,swr dk (m-i) (m+j-i) i,rfl, ?_,hi,by omega,him,by omega,by omega,by rw[a2U];exact hds,S2,fun d' h'=> ?_⟩
     ·congr 1
      omega
     ·rw[show m+(j-i)=m+j-i by omega]at h'
      exact HE.out _ (b2U (by omega) him (by omega) h')
end Go.Proofs.Ytcblehiddfnafaa.canonSame
namespace Go.Proofs.Ytcblehiddfnafaa.canonSame
open Go.Shelf Go.RowKit Go.Lib Go.Sort
variable{α:Type}[Inhabited α]
def b5T(P:Program)(g:Nat)(rv:Value)(enc:α→List Value)(k:Nat)(cf:α→α→Int)(blk off size:Nat)(w:World):Prop:=
 ∀(m:Nat) (os:Array Obj) (dk:Array α),dk.size=size→ ∀x y:α,
  Calls P g #[rv,.agg (enc x).toArray,.agg (enc y).toArray] (sortWorldK enc k w blk off m dk os) fun e w'=>e= .returned (.int .i64 (cf x y))∧ ∃q os',w'=grow ((sortWorldK enc k w blk off m dk os).drewN q) os'
theorem cmpL{P:Program}{g:Nat}{rv:Value}{enc:α→List Value}{k:Nat}{cf:α→α→Int}{blk off size:Nat}{w0 W:World}{dk:Array α}(h:SWK enc k w0 blk off dk W)(hC:b5T P g rv enc k cf blk off size w0)(hs:dk.size=size)(x y:α)(n:Nat)(os:Array Obj):
  Calls P g #[rv,.agg (enc x).toArray,.agg (enc y).toArray] (grow (W.drewN n) os) fun e w'=>e= .returned (.int .i64 (cf x y))∧ ∃q os',w'=grow ((grow (W.drewN n) os).drewN q) os':=by
 obtain⟨m,os0,hw⟩:=h.grown n os
 rw[hw]
 exact hC m os0 dk hs x y
set_option maxHeartbeats 4000000 in
set_option maxRecDepth 1000000 in
theorem a9G{P:Program}{k:Nat}(L:Lay P k)(enc:α→List Value)(cf:α→α→Int)(g:Nat)(rv:Value)(blk off cap a b:Nat)(d0 d:Array α)(w0 w:World)(eg: ∀args w,(callFunc g args).run P w= .ok (.enter g args) w)(hcmp:b5T P g rv enc k cf blk off d0.size w0)(R:RowK enc k w0 blk off d0)(hs:d0.size=d.size)(S:SWK enc k w0 blk off d w)(hab:a≤b)(hb:b≤d.size)(hsz:d.size<4611686018427387904):
  Calls P 77 #[.slice (some ⟨blk,off,none⟩) d.size cap,.int .i64 a,.int .i64 b,.func (.func g) #[rv] #[]] w fun e w'=>
   e= .returned (.tuple #[])∧SWK enc k w0 blk off (Sort.insertionSort (ltOf cf) d a b) w':=by
 have mixed:=L.mixed;have t0:=L.t0;have a0:=L.a0;have z0:=L.z0;have v0:=L.v0;have t3:=L.t3;have a3:=L.a3;have z3:=L.z3;have v3:=L.v3;have t4:=L.t4;have a4:=L.a4;have z4:=L.z4;have v4:=L.v4;have t23:=L.t23;have a23:=L.a23;have z23:=L.z23;have v23:=L.v23;have t111:=L.t111;have a111:=L.a111;have z111:=L.z111;have v111:=L.v111;have t74:=L.t74;have a74:=L.a74;have z74:=L.z74;have v74:=L.v74;have aE:=L.aE;have zE:=L.zE
 have HC:Aside _:=hcmp
 have S0:Aside _:=S
 clear hcmp S
 go_enter L.f77,Try.ntmps77
 go_wp2
 go_loopg [8] (b-a) (fun g1 vi wr=> ∃(i:Nat) (dk:Array α),vi= .int .i64 i∧a<i∧i≤b+1∧b+1-i≤g1+1∧dk.size=d.size∧Aside (SWK enc k w0 blk off dk wr)∧Hid (insOuter (ltOf cf) a b i dk=insOuter (ltOf cf) a b (a+1) d))
 case atStart=>exact⟨a+1,d,by go_num,by omega,by omega,by omega,rfl,S0,rfl⟩
 case round=>
  obtain⟨i,dk,rfl,hai,hib,hg1,hsk,S1,HO⟩:=hrel
  clear S0
  by_cases hlt:i<b
  ·have hltz:(i:Int)<(b:Int):=by omega
   go_wp2
   go_loopg [9] i (fun g2 vj wr2=> ∃(j:Nat) (dj:Array α),vj= .int .i64 j∧a≤j∧j≤i∧j≤g2∧dj.size=d.size∧Aside (SWK enc k w0 blk off dj wr2)∧Hid (insInner (ltOf cf) a j dj=insInner (ltOf cf) a i dk))
   case atStart=>exact⟨i,dk,rfl,by omega,Nat.le_refl _,Nat.le_refl _,hsk,S1,rfl⟩
   case round=>
    clear S1
    obtain⟨j,dj,rfl,haj,hji,hg2,hsj,S1,HI⟩:=hrel
    have out:(j≤a∨ltOf cf dj[j]! dj[j-1]! =false)→Hid (insOuter (ltOf cf) a b (i+1) dj=insOuter (ltOf cf) a b (a+1) d):=fun hs=>by
     show _=_
     rw[←HO.out,insOuter_go _ _ _ _ _ hlt,←HI.out,insInner_stop _ _ _ _ hs]
    have OUT:Aside _:=out
    clear out
    by_cases hja:a<j
    ·have hjaz:(a:Int)<(j:Int):=by omega
     obtain⟨jp,rfl⟩: ∃jp,j=jp+1:=⟨j-1,by omega⟩
     have hwp:IntKind.i64.wrap (jp:Int)=(jp:Int):=by rw[IntKind.wrap_i64];omega
     have hjaz':(a:Int)<(jp:Int)+1:=by omega
     cases hL:ltOf cf dj[jp+1]! dj[jp]! with
     |true=>
      have ea1:((jp:Int)+1).toNat=jp+1:=by omega
      have pa1:(0:Int)≤(jp:Int)+1:=by omega
      have ba1:(jp:Int)+1<(d.size:Int):=by omega
      have ec1:((jp:Int)).toNat=jp:=by omega
      have pc1:(0:Int)≤(jp:Int):=by omega
      have bc1:(jp:Int)<(d.size:Int):=by omega
      obtain⟨x1,hx1⟩: ∃x,x=dj[jp+1]! :=⟨_,rfl⟩
      obtain⟨y1,hy1⟩: ∃x,x=dj[jp]! :=⟨_,rfl⟩
      have l1a:=S1.out.ld R (by omega) P (jp+1) (by omega)
      have l1b:=S1.out.ld R (by omega) P (jp) (by omega)
      rw[←hx1]at l1a
      rw[←hy1]at l1b
      have hc1:=cmpL S1.out HC.out (by omega) x1 y1
      have hv1:cf x1 y1<0:=by rw[hx1,hy1];exact of_decide_eq_true hL
      clear hx1 hy1
      go_wp2_with fail
      go_quiet_grown (first|(go_at_fn g;refine Calls.grown_of (hc1 _ _)))
      have S1':Aside (SWK enc k w0 blk off dj (grow (wr.drewN nq) osq)):=S1.out.grown nq osq
      clear l1a l1b hc1 S1
      generalize grow (wr.drewN nq) osq=wr' at S1' ⊢
      clear nq osq
      go_wp2_with fail
      have ea2:((jp:Int)+1).toNat=jp+1:=by omega
      have pa2:(0:Int)≤(jp:Int)+1:=by omega
      have ba2:(jp:Int)+1<(d.size:Int):=by omega
      have ec2:((jp:Int)).toNat=jp:=by omega
      have pc2:(0:Int)≤(jp:Int):=by omega
      have bc2:(jp:Int)<(d.size:Int):=by omega
      have T2:Aside (SWK enc k w0 blk off (swp dj (jp+1) (jp)) ((wr'.drew.setCells blk (off+(jp+1)*k) (enc dj[jp]!)).setCells blk (off+(jp)*k) (enc dj[jp+1]!))):=S1'.out.swapped R (jp+1) (jp) (by omega) (by omega)
      have l2a:=S1'.out.ld1 R (by omega) P (jp+1) (by omega)
      have l2b:=S1'.out.ld1 R (by omega) P (jp) (by omega)
      have s2a:=S1'.out.st1 R (by omega) P (jp+1) (by omega) dj[jp]!
      have s2b:=S1'.out.st2 R (by omega) P (jp+1) (jp) (by omega) (by omega) dj[jp]! dj[jp+1]!
      have n2a:(enc dj[jp+1]!).length=k:=R.hk _
      have n2b:(enc dj[jp]!).length=k:=R.hk _
      generalize enc dj[jp+1]! =cI2 at T2 l2a s2b n2a
      generalize enc dj[jp]! =cJ2 at T2 l2b s2a s2b n2b
      clear S1'
      go_wp2_with fail
      go_big_region_o
      clear l2a l2b s2a s2b
      generalize (wr'.drew.setCells blk (off+(jp+1)*k) cJ2).setCells blk (off+(jp)*k) cI2=w2 at T2 ⊢
      all_goals go_wp2
      go_roundg jp
      case measure=>omega
      case rel=>
       refine⟨jp,swp dj (jp+1) jp,by first|rfl|go_num|(congr 1;omega),by omega,by omega,Nat.le_refl _,by rw[size_swp];exact hsj,T2,(show _=_ from ?_)⟩
       have:=insInner_go (ltOf cf) a (jp+1) dj hja (by simp only[Nat.add_sub_cancel];exact hL)
       simp only[Nat.add_sub_cancel]at this
       rw[←HI.out,this]
     |false=>
      have ea1:((jp:Int)+1).toNat=jp+1:=by omega
      have pa1:(0:Int)≤(jp:Int)+1:=by omega
      have ba1:(jp:Int)+1<(d.size:Int):=by omega
      have ec1:((jp:Int)).toNat=jp:=by omega
      have pc1:(0:Int)≤(jp:Int):=by omega
      have bc1:(jp:Int)<(d.size:Int):=by omega
      obtain⟨x1,hx1⟩: ∃x,x=dj[jp+1]! :=⟨_,rfl⟩
      obtain⟨y1,hy1⟩: ∃x,x=dj[jp]! :=⟨_,rfl⟩
      have l1a:=S1.out.ld R (by omega) P (jp+1) (by omega)
      have l1b:=S1.out.ld R (by omega) P (jp) (by omega)
      rw[←hx1]at l1a
      rw[←hy1]at l1b
      have hc1:=cmpL S1.out HC.out (by omega) x1 y1
      have hv1: ¬cf x1 y1<0:=by rw[hx1,hy1];exact of_decide_eq_false hL
      clear hx1 hy1
      go_wp2_with fail
      go_quiet_grown (first|(go_at_fn g;refine Calls.grown_of (hc1 _ _)))
      have S1':Aside (SWK enc k w0 blk off dj (grow (wr.drewN nq) osq)):=S1.out.grown nq osq
      clear l1a l1b hc1 S1
      generalize grow (wr.drewN nq) osq=wr' at S1' ⊢
      clear nq osq
      go_wp2
      go_roundg (b-(i+1))
      case measure=>omega
      case rel=>exact⟨i+1,dj,by go_num,by omega,by omega,by omega,hsj,S1',OUT.out (Or.inr (by simp only[Nat.add_sub_cancel];exact hL))⟩
    ·have hjaz:decide ((j:Int)>(a:Int))=false:=decide_eq_false (by omega)
     have hjaz': ¬(a:Int)<(j:Int):=by omega
     have S2:Aside (SWK enc k w0 blk off dj wr.drew):=S1.out.drew
     clear S1
     go_wp2_with fail
     go_big_region_o
     all_goals go_wp2
     go_roundg (b-(i+1))
     case measure=>omega
     case rel=>exact⟨i+1,dj,by go_num,by omega,by omega,by omega,hsj,S2,OUT.out (Or.inl (by omega))⟩
  ·have hltz: ¬(i:Int)<(b:Int):=by omega
   go_wp2
   go_end0
   refine⟨rfl, ?_⟩
   unfold Sort.insertionSort
   rw[←HO.out,insOuter_stop _ _ _ _ _ hlt]
   exact S1.out
end Go.Proofs.Ytcblehiddfnafaa.canonSame
