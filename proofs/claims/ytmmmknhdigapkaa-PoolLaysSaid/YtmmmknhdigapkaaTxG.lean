/-
  PutNum, 6 bytes more.
-/
import Derived.Test.YtmmmknhdigapkaaTxM
import Derived.WalkKit
import Derived.RegionTactic
import Derived.ChangeAlike
import Derived.StillTailTactics
import Derived.Test.YtmmmknhdigapkaaTxF
import Derived.Test.YtmmmknhdigapkaaTxA
import Derived.Test.YtmmmknhdigapkaaEvPd
namespace Go.Proofs.Ytmmmknhdigapkaa.poolLays
open Go.RowKit
set_option linter.unusedVariables false
theorem or6{y:Int}(h0:0≤y)(h1:y<2):bits BinOp.or IntKind.u8 y 252=252+y:=by
 have h:((List.range 2).all fun n=>bits BinOp.or IntKind.u8 (n:Int) 252==252+(n:Int))=true:=by kernel_rfl
 have:=(List.all_eq_true.1 h) y.toNat (List.mem_range.2 (by omega))
 rw[show((y.toNat:Nat):Int)=y by omega]at this
 exact eq_of_beq this
set_option maxRecDepth 100000 in
set_option maxHeartbeats 4000000 in
theorem e3j{x:Int}{s:ByteArray}{w:World}(h0:0≤x)(h1:x<18446744073709551616)(hk:NumK x 6)(hs:s.size≤1099511627776):
  Calls Try.prog 35 #[.string s,.int .u64 x] w fun e w'=>e= .returned (.string (s++strOfNums [252+x/256/256/256/256/256/256,x/256/256/256/256/256%256,x/256/256/256/256%256,x/256/256/256%256,x/256/256%256,x/256%256,x%256]))∧Below w.heap.size w w':=by
 go_enter Try.func35,Try.ntmps35
 go_wp2_with (go_at_call 52;refine(a8D h0 h1 (by go_simp)).mono ?_;rintro e w' ⟨n,rfl,rfl,hn⟩;obtain rfl:=NumK.uniq hk hn)
 refine wp_loop_rounds 7 ?_
 rw[rounds_succ]
 go_wp2
 rw[rounds_succ]
 go_wp2
 rw[rounds_succ]
 go_wp2
 rw[rounds_succ]
 go_wp2
 rw[rounds_succ]
 go_wp2
 rw[rounds_succ]
 go_wp2
 rw[rounds_succ]
 go_wp2
 go_region
 rw[show(if IntKind.u8.signed=true then -1 else IntKind.u8.max)=255 from rfl,show bits BinOp.xor IntKind.u8 255 3=252 from by kernel_rfl]
 have hw: ∃W R v n0 n1 n2 n3 n4 n5 n6,W=(((w.alloc (Obj.cells #[Value.int IntKind.u64 v] 71)).alloc
      (Obj.cells #[Value.int IntKind.u8 n0,Value.int IntKind.u8 n1,Value.int IntKind.u8 n2,Value.int IntKind.u8 n3,Value.int IntKind.u8 n4,Value.int IntKind.u8 n5,Value.int IntKind.u8 n6,Value.int IntKind.u8 0,Value.int IntKind.u8 0] 95)).drew)∧R=w.heap.size+1∧v=x/256/256/256/256/256/256∧n0=bits BinOp.or IntKind.u8 (x/256/256/256/256/256/256%256) 252∧n1=x/256/256/256/256/256%256∧n2=x/256/256/256/256%256∧n3=x/256/256/256%256∧n4=x/256/256%256∧n5=x/256%256∧n6=x%256:=⟨_,_,_,_,_,_,_,_,_,_,rfl,rfl,rfl,rfl,rfl,rfl,rfl,rfl,rfl,rfl⟩
 obtain⟨W,R,v,n0,n1,n2,n3,n4,n5,n6,eW,eR,ev,e0,e1,e2,e3,e4,e5,e6⟩:=hw
 have hb6:Below w.heap.size w W:=by
  subst eW
  exact((((Below.refl _ w).alloc (Nat.le_refl _) _).alloc (by simp) _)).drew
 have hR:W.heap[R]? =some (.cells #[Value.int IntKind.u8 n0,Value.int IntKind.u8 n1,Value.int IntKind.u8 n2,Value.int IntKind.u8 n3,Value.int IntKind.u8 n4,Value.int IntKind.u8 n5,Value.int IntKind.u8 n6,Value.int IntKind.u8 0,Value.int IntKind.u8 0] 95 (0,0)):=by
  subst eW eR
  exact a5P w _ _
 rw[←e0,←ev,←e1,←e2,←e3,←e4,←e5,←e6,←eW,←eR]
 have hv:Hid (([n0,n1,n2,n3,n4,n5,n6]:List Int)= [252+x/256/256/256/256/256/256,x/256/256/256/256/256%256,x/256/256/256/256%256,x/256/256/256%256,x/256/256%256,x/256%256,x%256]):=by
  show _=_
  rw[e0,e1,e2,e3,e4,e5,e6,show x/256/256/256/256/256/256%256=x/256/256/256/256/256/256 by obtain⟨b0,b1,c1,c2,c3,c4,c5,c6,c7,c8⟩:=hk;omega,or6 (by omega) (by obtain⟨b0,b1,c1,c2,c3,c4,c5,c6,c7,c8⟩:=hk;omega)]
 clear e0 e1 e2 e3 e4 e5 e6 eW eR ev
 go_wp2
 rw[a8N (m:=s.size+7) (by omega) (by omega)]
 simp only[Result.andThen_ok,Oper.upon_value]
 apply_assumption
 have hg1:=at_new W (Obj.cells (List.replicate (s.size+7) z8).toArray 5)
 have hR1:=a8t W (Obj.cells (List.replicate (s.size+7) z8).toArray 5) hR
 have hb1:=hb6.alloc hb6.size (Obj.cells (List.replicate (s.size+7) z8).toArray 5)
 have hge:=hb6.size
 have hRg:R≠W.heap.size:=Nat.ne_of_lt (Array.getElem?_eq_some_iff.1 hR).1
 generalize W.alloc (Obj.cells (List.replicate (s.size+7) z8).toArray 5)=W1 at*
 generalize W.heap.size=g at*
 clear hR hb6
 go_wp2
 rw[a5L (a:=s.size) (b:=7) rfl hg1 rfl]
 simp only[Result.andThen_ok,Oper.upon_value]
 apply_assumption
 have hg2:=setRow_heap W1 g _ (Lib.byteCells s.data.toList++List.replicate 7 z8).toArray 5 _ hg1
 have hR2:=(setRow_other W1 g R (Lib.byteCells s.data.toList++List.replicate 7 z8).toArray hRg).trans hR1
 have hb2:=below_setRow hb1 hge (Lib.byteCells s.data.toList++List.replicate 7 z8).toArray
 generalize W1.setRow g (Lib.byteCells s.data.toList++List.replicate 7 z8).toArray=W2 at*
 clear hg1 hR1 hb1
 go_wp2
 have hle:(s.size:Int)≤(s.size:Int)+7:=by omega
 have hsl:=fun W=>a8F W R (n:=7) (by decide) (v:=IntKind.i64.wrap 7) (by kernel_rfl)
 go_still_tail 7,(by kernel_rfl)
 have hg3:W2.drew.heap[g]? =_:=hg2
 have hR3:W2.drew.heap[R]? =_:=hR2
 have hb3:Below w.heap.size w W2.drew:=hb2.drew
 change wpList _ _ _ _ _ W2.drew
 generalize W2.drew=W3 at*
 clear hg2 hR2 hb2 hle hsl
 go_wp2
 rw[a5K (b:=7) (s:=s) (xs:=[n0,n1,n2,n3,n4,n5,n6]) (rest:=[z8,z8]) hg3 hR3 rfl rfl]
 simp only[Result.andThen_ok,Oper.upon_value]
 apply_assumption
 have hg4:=setRow_heap W3 g _ (Lib.byteCells s.data.toList++b8 [n0,n1,n2,n3,n4,n5,n6]).toArray 5 _ hg3
 have hb4:=below_setRow hb3 hge (Lib.byteCells s.data.toList++b8 [n0,n1,n2,n3,n4,n5,n6]).toArray
 generalize W3.setRow g (Lib.byteCells s.data.toList++b8 [n0,n1,n2,n3,n4,n5,n6]).toArray=W4 at*
 clear hg3 hR3 hb3
 have hcv:=a8k (n:=s.size+7) (m:=s.size+7) hg4 rfl
 clear hg4
 go_wp2
 go_ret
 have hv2:([n0,n1,n2,n3,n4,n5,n6]:List Int)= [252+x/256/256/256/256/256/256,x/256/256/256/256/256%256,x/256/256/256/256%256,x/256/256/256%256,x/256/256%256,x/256%256,x%256]:=hv
 exact⟨by rw[←hv2];rfl,hb4⟩
end Go.Proofs.Ytmmmknhdigapkaa.poolLays
namespace Go.Proofs.Ytmmmknhdigapkaa.poolLays
open Go.RowKit
set_option linter.unusedVariables false
theorem or7{y:Int}(h0:0≤y)(h1:y<1):bits BinOp.or IntKind.u8 y 254=254+y:=by
 have h:((List.range 1).all fun n=>bits BinOp.or IntKind.u8 (n:Int) 254==254+(n:Int))=true:=by kernel_rfl
 have:=(List.all_eq_true.1 h) y.toNat (List.mem_range.2 (by omega))
 rw[show((y.toNat:Nat):Int)=y by omega]at this
 exact eq_of_beq this
set_option maxRecDepth 100000 in
set_option maxHeartbeats 4000000 in
theorem e3i{x:Int}{s:ByteArray}{w:World}(h0:0≤x)(h1:x<18446744073709551616)(hk:NumK x 7)(hs:s.size≤1099511627776):
  Calls Try.prog 35 #[.string s,.int .u64 x] w fun e w'=>e= .returned (.string (s++strOfNums [254+x/256/256/256/256/256/256/256,x/256/256/256/256/256/256%256,x/256/256/256/256/256%256,x/256/256/256/256%256,x/256/256/256%256,x/256/256%256,x/256%256,x%256]))∧Below w.heap.size w w':=by
 go_enter Try.func35,Try.ntmps35
 go_wp2_with (go_at_call 52;refine(a8D h0 h1 (by go_simp)).mono ?_;rintro e w' ⟨n,rfl,rfl,hn⟩;obtain rfl:=NumK.uniq hk hn)
 refine wp_loop_rounds 8 ?_
 rw[rounds_succ]
 go_wp2
 rw[rounds_succ]
 go_wp2
 rw[rounds_succ]
 go_wp2
 rw[rounds_succ]
 go_wp2
 rw[rounds_succ]
 go_wp2
 rw[rounds_succ]
 go_wp2
 rw[rounds_succ]
 go_wp2
 rw[rounds_succ]
 go_wp2
 go_region
 rw[show(if IntKind.u8.signed=true then -1 else IntKind.u8.max)=255 from rfl,show bits BinOp.xor IntKind.u8 255 1=254 from by kernel_rfl]
 have hw: ∃W R v n0 n1 n2 n3 n4 n5 n6 n7,W=(((w.alloc (Obj.cells #[Value.int IntKind.u64 v] 71)).alloc
      (Obj.cells #[Value.int IntKind.u8 n0,Value.int IntKind.u8 n1,Value.int IntKind.u8 n2,Value.int IntKind.u8 n3,Value.int IntKind.u8 n4,Value.int IntKind.u8 n5,Value.int IntKind.u8 n6,Value.int IntKind.u8 n7,Value.int IntKind.u8 0] 95)).drew)∧R=w.heap.size+1∧v=x/256/256/256/256/256/256/256∧n0=bits BinOp.or IntKind.u8 (x/256/256/256/256/256/256/256) 254∧n1=x/256/256/256/256/256/256%256∧n2=x/256/256/256/256/256%256∧n3=x/256/256/256/256%256∧n4=x/256/256/256%256∧n5=x/256/256%256∧n6=x/256%256∧n7=x%256:=⟨_,_,_,_,_,_,_,_,_,_,_,rfl,rfl,rfl,rfl,rfl,rfl,rfl,rfl,rfl,rfl,rfl⟩
 obtain⟨W,R,v,n0,n1,n2,n3,n4,n5,n6,n7,eW,eR,ev,e0,e1,e2,e3,e4,e5,e6,e7⟩:=hw
 have hb6:Below w.heap.size w W:=by
  subst eW
  exact((((Below.refl _ w).alloc (Nat.le_refl _) _).alloc (by simp) _)).drew
 have hR:W.heap[R]? =some (.cells #[Value.int IntKind.u8 n0,Value.int IntKind.u8 n1,Value.int IntKind.u8 n2,Value.int IntKind.u8 n3,Value.int IntKind.u8 n4,Value.int IntKind.u8 n5,Value.int IntKind.u8 n6,Value.int IntKind.u8 n7,Value.int IntKind.u8 0] 95 (0,0)):=by
  subst eW eR
  exact a5P w _ _
 rw[←e0,←ev,←e1,←e2,←e3,←e4,←e5,←e6,←e7,←eW,←eR]
 have hv:Hid (([n0,n1,n2,n3,n4,n5,n6,n7]:List Int)= [254+x/256/256/256/256/256/256/256,x/256/256/256/256/256/256%256,x/256/256/256/256/256%256,x/256/256/256/256%256,x/256/256/256%256,x/256/256%256,x/256%256,x%256]):=by
  show _=_
  rw[e0,e1,e2,e3,e4,e5,e6,e7,or7 (by omega) (by obtain⟨b0,b1,c1,c2,c3,c4,c5,c6,c7,c8⟩:=hk;omega)]
 clear e0 e1 e2 e3 e4 e5 e6 e7 eW eR ev
 go_wp2
 rw[a8N (m:=s.size+8) (by omega) (by omega)]
 simp only[Result.andThen_ok,Oper.upon_value]
 apply_assumption
 have hg1:=at_new W (Obj.cells (List.replicate (s.size+8) z8).toArray 5)
 have hR1:=a8t W (Obj.cells (List.replicate (s.size+8) z8).toArray 5) hR
 have hb1:=hb6.alloc hb6.size (Obj.cells (List.replicate (s.size+8) z8).toArray 5)
 have hge:=hb6.size
 have hRg:R≠W.heap.size:=Nat.ne_of_lt (Array.getElem?_eq_some_iff.1 hR).1
 generalize W.alloc (Obj.cells (List.replicate (s.size+8) z8).toArray 5)=W1 at*
 generalize W.heap.size=g at*
 clear hR hb6
 go_wp2
 rw[a5L (a:=s.size) (b:=8) rfl hg1 rfl]
 simp only[Result.andThen_ok,Oper.upon_value]
 apply_assumption
 have hg2:=setRow_heap W1 g _ (Lib.byteCells s.data.toList++List.replicate 8 z8).toArray 5 _ hg1
 have hR2:=(setRow_other W1 g R (Lib.byteCells s.data.toList++List.replicate 8 z8).toArray hRg).trans hR1
 have hb2:=below_setRow hb1 hge (Lib.byteCells s.data.toList++List.replicate 8 z8).toArray
 generalize W1.setRow g (Lib.byteCells s.data.toList++List.replicate 8 z8).toArray=W2 at*
 clear hg1 hR1 hb1
 go_wp2
 have hle:(s.size:Int)≤(s.size:Int)+8:=by omega
 have hsl:=fun W=>a8F W R (n:=8) (by decide) (v:=IntKind.i64.wrap 8) (by kernel_rfl)
 go_still_tail 7,(by kernel_rfl)
 have hg3:W2.drew.heap[g]? =_:=hg2
 have hR3:W2.drew.heap[R]? =_:=hR2
 have hb3:Below w.heap.size w W2.drew:=hb2.drew
 change wpList _ _ _ _ _ W2.drew
 generalize W2.drew=W3 at*
 clear hg2 hR2 hb2 hle hsl
 go_wp2
 rw[a5K (b:=8) (s:=s) (xs:=[n0,n1,n2,n3,n4,n5,n6,n7]) (rest:=[z8]) hg3 hR3 rfl rfl]
 simp only[Result.andThen_ok,Oper.upon_value]
 apply_assumption
 have hg4:=setRow_heap W3 g _ (Lib.byteCells s.data.toList++b8 [n0,n1,n2,n3,n4,n5,n6,n7]).toArray 5 _ hg3
 have hb4:=below_setRow hb3 hge (Lib.byteCells s.data.toList++b8 [n0,n1,n2,n3,n4,n5,n6,n7]).toArray
 generalize W3.setRow g (Lib.byteCells s.data.toList++b8 [n0,n1,n2,n3,n4,n5,n6,n7]).toArray=W4 at*
 clear hg3 hR3 hb3
 have hcv:=a8k (n:=s.size+8) (m:=s.size+8) hg4 rfl
 clear hg4
 go_wp2
 go_ret
 have hv2:([n0,n1,n2,n3,n4,n5,n6,n7]:List Int)= [254+x/256/256/256/256/256/256/256,x/256/256/256/256/256/256%256,x/256/256/256/256/256%256,x/256/256/256/256%256,x/256/256/256%256,x/256/256%256,x/256%256,x%256]:=hv
 exact⟨by rw[←hv2];rfl,hb4⟩
end Go.Proofs.Ytmmmknhdigapkaa.poolLays
namespace Go.Proofs.Ytmmmknhdigapkaa.poolLays
open Go.RowKit
set_option linter.unusedSimpArgs false
set_option linter.unusedVariables false
theorem or8{y:Int}(h0:0≤y)(h1:y<1):bits BinOp.or IntKind.u8 y 255=255+y:=by
 have h:((List.range 1).all fun n=>bits BinOp.or IntKind.u8 (n:Int) 255==255+(n:Int))=true:=by kernel_rfl
 have:=(List.all_eq_true.1 h) y.toNat (List.mem_range.2 (by omega))
 rw[show((y.toNat:Nat):Int)=y by omega]at this
 exact eq_of_beq this
set_option maxRecDepth 100000 in
set_option maxHeartbeats 4000000 in
theorem e3h{x:Int}{s:ByteArray}{w:World}(h0:0≤x)(h1:x<18446744073709551616)(hk:NumK x 8)(hs:s.size≤1099511627776):
  Calls Try.prog 35 #[.string s,.int .u64 x] w fun e w'=>e= .returned (.string (s++strOfNums [255+x/256/256/256/256/256/256/256/256,x/256/256/256/256/256/256/256,x/256/256/256/256/256/256%256,x/256/256/256/256/256%256,x/256/256/256/256%256,x/256/256/256%256,x/256/256%256,x/256%256,x%256]))∧Below w.heap.size w w':=by
 go_enter Try.func35,Try.ntmps35
 go_wp2_with (go_at_call 52;refine(a8D h0 h1 (by go_simp)).mono ?_;rintro e w' ⟨n,rfl,rfl,hn⟩;obtain rfl:=NumK.uniq hk hn)
 refine wp_loop_rounds 9 ?_
 rw[rounds_succ]
 go_wp2
 rw[rounds_succ]
 go_wp2
 rw[rounds_succ]
 go_wp2
 rw[rounds_succ]
 go_wp2
 rw[rounds_succ]
 go_wp2
 rw[rounds_succ]
 go_wp2
 rw[rounds_succ]
 go_wp2
 rw[rounds_succ]
 go_wp2
 rw[rounds_succ]
 go_wp2
 go_region
 rw[show(if IntKind.u8.signed=true then -1 else IntKind.u8.max)=255 from rfl,show bits BinOp.xor IntKind.u8 255 0=255 from by kernel_rfl]
 have hw: ∃W R v n0 n1 n2 n3 n4 n5 n6 n7 n8,W=(((w.alloc (Obj.cells #[Value.int IntKind.u64 v] 71)).alloc
      (Obj.cells #[Value.int IntKind.u8 n0,Value.int IntKind.u8 n1,Value.int IntKind.u8 n2,Value.int IntKind.u8 n3,Value.int IntKind.u8 n4,Value.int IntKind.u8 n5,Value.int IntKind.u8 n6,Value.int IntKind.u8 n7,Value.int IntKind.u8 n8] 95)).drew)∧R=w.heap.size+1∧v=x/256/256/256/256/256/256/256/256∧n0=bits BinOp.or IntKind.u8 (x/256/256/256/256/256/256/256/256) 255∧n1=x/256/256/256/256/256/256/256∧n2=x/256/256/256/256/256/256%256∧n3=x/256/256/256/256/256%256∧n4=x/256/256/256/256%256∧n5=x/256/256/256%256∧n6=x/256/256%256∧n7=x/256%256∧n8=x%256:=⟨_,_,_,_,_,_,_,_,_,_,_,_,rfl,rfl,rfl,rfl,rfl,rfl,rfl,rfl,rfl,rfl,rfl,rfl⟩
 obtain⟨W,R,v,n0,n1,n2,n3,n4,n5,n6,n7,n8,eW,eR,ev,e0,e1,e2,e3,e4,e5,e6,e7,e8⟩:=hw
 have hb6:Below w.heap.size w W:=by
  subst eW
  exact((((Below.refl _ w).alloc (Nat.le_refl _) _).alloc (by simp) _)).drew
 have hR:W.heap[R]? =some (.cells #[Value.int IntKind.u8 n0,Value.int IntKind.u8 n1,Value.int IntKind.u8 n2,Value.int IntKind.u8 n3,Value.int IntKind.u8 n4,Value.int IntKind.u8 n5,Value.int IntKind.u8 n6,Value.int IntKind.u8 n7,Value.int IntKind.u8 n8] 95 (0,0)):=by
  subst eW eR
  exact a5P w _ _
 rw[←e0,←ev,←e1,←e2,←e3,←e4,←e5,←e6,←e7,←e8,←eW,←eR]
 have hv:Hid (([n0,n1,n2,n3,n4,n5,n6,n7,n8]:List Int)= [255+x/256/256/256/256/256/256/256/256,x/256/256/256/256/256/256/256,x/256/256/256/256/256/256%256,x/256/256/256/256/256%256,x/256/256/256/256%256,x/256/256/256%256,x/256/256%256,x/256%256,x%256]):=by
  show _=_
  rw[e0,e1,e2,e3,e4,e5,e6,e7,e8,or8 (by omega) (by obtain⟨b0,b1,c1,c2,c3,c4,c5,c6,c7,c8⟩:=hk;omega)]
 clear e0 e1 e2 e3 e4 e5 e6 e7 e8 eW eR ev
 go_wp2
 rw[a8N (m:=s.size+9) (by omega) (by omega)]
 simp only[Result.andThen_ok,Oper.upon_value]
 apply_assumption
 have hg1:=at_new W (Obj.cells (List.replicate (s.size+9) z8).toArray 5)
 have hR1:=a8t W (Obj.cells (List.replicate (s.size+9) z8).toArray 5) hR
 have hb1:=hb6.alloc hb6.size (Obj.cells (List.replicate (s.size+9) z8).toArray 5)
 have hge:=hb6.size
 have hRg:R≠W.heap.size:=Nat.ne_of_lt (Array.getElem?_eq_some_iff.1 hR).1
 generalize W.alloc (Obj.cells (List.replicate (s.size+9) z8).toArray 5)=W1 at*
 generalize W.heap.size=g at*
 clear hR hb6
 go_wp2
 rw[a5L (a:=s.size) (b:=9) rfl hg1 rfl]
 simp only[Result.andThen_ok,Oper.upon_value]
 apply_assumption
 have hg2:=setRow_heap W1 g _ (Lib.byteCells s.data.toList++List.replicate 9 z8).toArray 5 _ hg1
 have hR2:=(setRow_other W1 g R (Lib.byteCells s.data.toList++List.replicate 9 z8).toArray hRg).trans hR1
 have hb2:=below_setRow hb1 hge (Lib.byteCells s.data.toList++List.replicate 9 z8).toArray
 generalize W1.setRow g (Lib.byteCells s.data.toList++List.replicate 9 z8).toArray=W2 at*
 clear hg1 hR1 hb1
 go_wp2
 have hle:(s.size:Int)≤(s.size:Int)+9:=by omega
 have hsl:=fun W=>a8F W R (n:=9) (by decide) (v:=IntKind.i64.wrap 9) (by kernel_rfl)
 go_still_tail 7,(by kernel_rfl)
 have hg3:W2.drew.heap[g]? =_:=hg2
 have hR3:W2.drew.heap[R]? =_:=hR2
 have hb3:Below w.heap.size w W2.drew:=hb2.drew
 change wpList _ _ _ _ _ W2.drew
 generalize W2.drew=W3 at*
 clear hg2 hR2 hb2 hle hsl
 go_wp2
 rw[a5K (b:=9) (s:=s) (xs:=[n0,n1,n2,n3,n4,n5,n6,n7,n8]) (rest:=[]) hg3 hR3 rfl rfl]
 simp only[Result.andThen_ok,Oper.upon_value]
 apply_assumption
 have hg4:=setRow_heap W3 g _ (Lib.byteCells s.data.toList++b8 [n0,n1,n2,n3,n4,n5,n6,n7,n8]).toArray 5 _ hg3
 have hb4:=below_setRow hb3 hge (Lib.byteCells s.data.toList++b8 [n0,n1,n2,n3,n4,n5,n6,n7,n8]).toArray
 generalize W3.setRow g (Lib.byteCells s.data.toList++b8 [n0,n1,n2,n3,n4,n5,n6,n7,n8]).toArray=W4 at*
 clear hg3 hR3 hb3
 have hcv:=a8k (n:=s.size+9) (m:=s.size+9) hg4 rfl
 clear hg4
 go_wp2
 go_ret
 have hv2:([n0,n1,n2,n3,n4,n5,n6,n7,n8]:List Int)= [255+x/256/256/256/256/256/256/256/256,x/256/256/256/256/256/256/256,x/256/256/256/256/256/256%256,x/256/256/256/256/256%256,x/256/256/256/256%256,x/256/256/256%256,x/256/256%256,x/256%256,x%256]:=hv
 exact⟨by rw[←hv2];rfl,hb4⟩
end Go.Proofs.Ytmmmknhdigapkaa.poolLays
namespace Go.Proofs.Ytmmmknhdigapkaa.poolLays
open Go.RowKit
set_option linter.unusedVariables false
set_option maxRecDepth 100000 in
set_option maxHeartbeats 4000000 in
theorem d9p{x:Int}{s:ByteArray}{w:World}(h0:0≤x)(h1:x<18446744073709551616)(hk:NumK x 0)(hs:s.size≤1099511627776):
  Calls Try.prog 37 #[.string s,.int .u64 x] w fun e w'=>e= .returned (.string (s++strOfNums [0+x]))∧Below w.heap.size w w':=by
 have a1:(x/128==0)=true:=by obtain⟨b0,b1,c1,c2,c3,c4,c5,c6,c7,c8⟩:=hk;exact beq_iff_eq.2 (by omega)
 have hcv:=c8T
 have hsz:=sz1
 go_enter Try.func37,Try.ntmps37
 go_wp2
 refine wp_loop_rounds 1 ?_
 rw[rounds_succ]
 go_wp2
 refine wp_loop_rounds 1 ?_
 rw[rounds_succ]
 go_wp2
 refine wp_loop_rounds 1 ?_
 rw[rounds_succ]
 go_wp2
 go_ret
 refine⟨?_,by(repeat (first|exact Below.refl _ _|refine Below.alloc ?_ (by simp;try omega) _))⟩
 refine(congrArg (fun t=>Ending.returned (Value.string t)) ?_:)
 rw[show wrap64 (wrap64 x)%256=0+x by obtain⟨b0,b1,c1,c2,c3,c4,c5,c6,c7,c8⟩:=hk;unfold wrap64;omega]
 simp only[a4v,ByteArray.append_empty]
end Go.Proofs.Ytmmmknhdigapkaa.poolLays
namespace Go.Proofs.Ytmmmknhdigapkaa.poolLays
open Go.RowKit
set_option linter.unusedVariables false
set_option maxRecDepth 100000 in
set_option maxHeartbeats 4000000 in
theorem d9o{x:Int}{s:ByteArray}{w:World}(h0:0≤x)(h1:x<18446744073709551616)(hk:NumK x 1)(hs:s.size≤1099511627776):
  Calls Try.prog 37 #[.string s,.int .u64 x] w fun e w'=>e= .returned (.string (s++strOfNums [128+x/256,x%256]))∧Below w.heap.size w w':=by
 have a1:(x/128==0)=false:=by obtain⟨b0,b1,c1,c2,c3,c4,c5,c6,c7,c8⟩:=hk;exact beq_false_of_ne (by omega)
 have a2:(x/16384==0)=true:=by obtain⟨b0,b1,c1,c2,c3,c4,c5,c6,c7,c8⟩:=hk;exact beq_iff_eq.2 (by omega)
 have hcv:=c8T
 have hsz:=sz1
 go_enter Try.func37,Try.ntmps37
 go_wp2
 refine wp_loop_rounds 2 ?_
 rw[rounds_succ]
 go_wp2
 rw[rounds_succ]
 go_wp2
 refine wp_loop_rounds 2 ?_
 rw[rounds_succ]
 go_wp2
 rw[rounds_succ]
 go_wp2
 refine wp_loop_rounds 2 ?_
 rw[rounds_succ]
 go_wp2
 rw[rounds_succ]
 go_wp2
 go_ret
 refine⟨?_,by(repeat (first|exact Below.refl _ _|refine Below.alloc ?_ (by simp;try omega) _))⟩
 refine(congrArg (fun t=>Ending.returned (Value.string t)) ?_:)
 rw[show(128+x/256)%256=128+x/256 by obtain⟨b0,b1,c1,c2,c3,c4,c5,c6,c7,c8⟩:=hk;omega]
 simp only[a4E,a4v,ByteArray.append_assoc,ByteArray.append_empty]
end Go.Proofs.Ytmmmknhdigapkaa.poolLays
namespace Go.Proofs.Ytmmmknhdigapkaa.poolLays
open Go.RowKit
set_option linter.unusedVariables false
set_option maxRecDepth 100000 in
set_option maxHeartbeats 4000000 in
theorem d9n{x:Int}{s:ByteArray}{w:World}(h0:0≤x)(h1:x<18446744073709551616)(hk:NumK x 2)(hs:s.size≤1099511627776):
  Calls Try.prog 37 #[.string s,.int .u64 x] w fun e w'=>e= .returned (.string (s++strOfNums [192+x/256/256,x/256%256,x%256]))∧Below w.heap.size w w':=by
 have a1:(x/128==0)=false:=by obtain⟨b0,b1,c1,c2,c3,c4,c5,c6,c7,c8⟩:=hk;exact beq_false_of_ne (by omega)
 have a2:(x/16384==0)=false:=by obtain⟨b0,b1,c1,c2,c3,c4,c5,c6,c7,c8⟩:=hk;exact beq_false_of_ne (by omega)
 have a3:(x/2097152==0)=true:=by obtain⟨b0,b1,c1,c2,c3,c4,c5,c6,c7,c8⟩:=hk;exact beq_iff_eq.2 (by omega)
 have hcv:=c8T
 have hsz:=sz1
 go_enter Try.func37,Try.ntmps37
 go_wp2
 refine wp_loop_rounds 3 ?_
 rw[rounds_succ]
 go_wp2
 rw[rounds_succ]
 go_wp2
 rw[rounds_succ]
 go_wp2
 refine wp_loop_rounds 3 ?_
 rw[rounds_succ]
 go_wp2
 rw[rounds_succ]
 go_wp2
 rw[rounds_succ]
 go_wp2
 refine wp_loop_rounds 3 ?_
 rw[rounds_succ]
 go_wp2
 rw[rounds_succ]
 go_wp2
 rw[rounds_succ]
 go_wp2
 go_ret
 refine⟨?_,by(repeat (first|exact Below.refl _ _|refine Below.alloc ?_ (by simp;try omega) _))⟩
 refine(congrArg (fun t=>Ending.returned (Value.string t)) ?_:)
 rw[show(192+x/256/256)%256=192+x/256/256 by obtain⟨b0,b1,c1,c2,c3,c4,c5,c6,c7,c8⟩:=hk;omega]
 simp only[a4E,a4v,ByteArray.append_assoc,ByteArray.append_empty]
end Go.Proofs.Ytmmmknhdigapkaa.poolLays
namespace Go.Proofs.Ytmmmknhdigapkaa.poolLays
open Go.RowKit
set_option linter.unusedVariables false
set_option maxRecDepth 100000 in
set_option maxHeartbeats 4000000 in
theorem d9m{x:Int}{s:ByteArray}{w:World}(h0:0≤x)(h1:x<18446744073709551616)(hk:NumK x 3)(hs:s.size≤1099511627776):
  Calls Try.prog 37 #[.string s,.int .u64 x] w fun e w'=>e= .returned (.string (s++strOfNums [224+x/256/256/256,x/256/256%256,x/256%256,x%256]))∧Below w.heap.size w w':=by
 have a1:(x/128==0)=false:=by obtain⟨b0,b1,c1,c2,c3,c4,c5,c6,c7,c8⟩:=hk;exact beq_false_of_ne (by omega)
 have a2:(x/16384==0)=false:=by obtain⟨b0,b1,c1,c2,c3,c4,c5,c6,c7,c8⟩:=hk;exact beq_false_of_ne (by omega)
 have a3:(x/2097152==0)=false:=by obtain⟨b0,b1,c1,c2,c3,c4,c5,c6,c7,c8⟩:=hk;exact beq_false_of_ne (by omega)
 have a4:(x/268435456==0)=true:=by obtain⟨b0,b1,c1,c2,c3,c4,c5,c6,c7,c8⟩:=hk;exact beq_iff_eq.2 (by omega)
 have hcv:=c8T
 have hsz:=sz1
 go_enter Try.func37,Try.ntmps37
 go_wp2
 refine wp_loop_rounds 4 ?_
 rw[rounds_succ]
 go_wp2
 rw[rounds_succ]
 go_wp2
 rw[rounds_succ]
 go_wp2
 rw[rounds_succ]
 go_wp2
 refine wp_loop_rounds 4 ?_
 rw[rounds_succ]
 go_wp2
 rw[rounds_succ]
 go_wp2
 rw[rounds_succ]
 go_wp2
 rw[rounds_succ]
 go_wp2
 refine wp_loop_rounds 4 ?_
 rw[rounds_succ]
 go_wp2
 rw[rounds_succ]
 go_wp2
 rw[rounds_succ]
 go_wp2
 rw[rounds_succ]
 go_wp2
 go_ret
 refine⟨?_,by(repeat (first|exact Below.refl _ _|refine Below.alloc ?_ (by simp;try omega) _))⟩
 refine(congrArg (fun t=>Ending.returned (Value.string t)) ?_:)
 rw[show(224+x/256/256/256)%256=224+x/256/256/256 by obtain⟨b0,b1,c1,c2,c3,c4,c5,c6,c7,c8⟩:=hk;omega]
 simp only[a4E,a4v,ByteArray.append_assoc,ByteArray.append_empty]
end Go.Proofs.Ytmmmknhdigapkaa.poolLays
namespace Go.Proofs.Ytmmmknhdigapkaa.poolLays
open Go.RowKit
set_option linter.unusedVariables false
set_option maxRecDepth 100000 in
set_option maxHeartbeats 4000000 in
theorem d9l{x:Int}{s:ByteArray}{w:World}(h0:0≤x)(h1:x<18446744073709551616)(hk:NumK x 4)(hs:s.size≤1099511627776):
  Calls Try.prog 37 #[.string s,.int .u64 x] w fun e w'=>e= .returned (.string (s++strOfNums [240+x/256/256/256/256,x/256/256/256%256,x/256/256%256,x/256%256,x%256]))∧Below w.heap.size w w':=by
 have a1:(x/128==0)=false:=by obtain⟨b0,b1,c1,c2,c3,c4,c5,c6,c7,c8⟩:=hk;exact beq_false_of_ne (by omega)
 have a2:(x/16384==0)=false:=by obtain⟨b0,b1,c1,c2,c3,c4,c5,c6,c7,c8⟩:=hk;exact beq_false_of_ne (by omega)
 have a3:(x/2097152==0)=false:=by obtain⟨b0,b1,c1,c2,c3,c4,c5,c6,c7,c8⟩:=hk;exact beq_false_of_ne (by omega)
 have a4:(x/268435456==0)=false:=by obtain⟨b0,b1,c1,c2,c3,c4,c5,c6,c7,c8⟩:=hk;exact beq_false_of_ne (by omega)
 have a5:(x/34359738368==0)=true:=by obtain⟨b0,b1,c1,c2,c3,c4,c5,c6,c7,c8⟩:=hk;exact beq_iff_eq.2 (by omega)
 have hcv:=c8T
 have hsz:=sz1
 go_enter Try.func37,Try.ntmps37
 go_wp2
 refine wp_loop_rounds 5 ?_
 rw[rounds_succ]
 go_wp2
 rw[rounds_succ]
 go_wp2
 rw[rounds_succ]
 go_wp2
 rw[rounds_succ]
 go_wp2
 rw[rounds_succ]
 go_wp2
 refine wp_loop_rounds 5 ?_
 rw[rounds_succ]
 go_wp2
 rw[rounds_succ]
 go_wp2
 rw[rounds_succ]
 go_wp2
 rw[rounds_succ]
 go_wp2
 rw[rounds_succ]
 go_wp2
 refine wp_loop_rounds 5 ?_
 rw[rounds_succ]
 go_wp2
 rw[rounds_succ]
 go_wp2
 rw[rounds_succ]
 go_wp2
 rw[rounds_succ]
 go_wp2
 rw[rounds_succ]
 go_wp2
 go_ret
 refine⟨?_,by(repeat (first|exact Below.refl _ _|refine Below.alloc ?_ (by simp;try omega) _))⟩
 refine(congrArg (fun t=>Ending.returned (Value.string t)) ?_:)
 rw[show(240+x/256/256/256/256)%256=240+x/256/256/256/256 by obtain⟨b0,b1,c1,c2,c3,c4,c5,c6,c7,c8⟩:=hk;omega]
 simp only[a4E,a4v,ByteArray.append_assoc,ByteArray.append_empty]
end Go.Proofs.Ytmmmknhdigapkaa.poolLays
namespace Go.Proofs.Ytmmmknhdigapkaa.poolLays
open Go.RowKit
set_option linter.unusedVariables false
set_option maxRecDepth 100000 in
set_option maxHeartbeats 4000000 in
theorem d9k{x:Int}{s:ByteArray}{w:World}(h0:0≤x)(h1:x<18446744073709551616)(hk:NumK x 5)(hs:s.size≤1099511627776):
  Calls Try.prog 37 #[.string s,.int .u64 x] w fun e w'=>e= .returned (.string (s++strOfNums [248+x/256/256/256/256/256,x/256/256/256/256%256,x/256/256/256%256,x/256/256%256,x/256%256,x%256]))∧Below w.heap.size w w':=by
 have a1:(x/128==0)=false:=by obtain⟨b0,b1,c1,c2,c3,c4,c5,c6,c7,c8⟩:=hk;exact beq_false_of_ne (by omega)
 have a2:(x/16384==0)=false:=by obtain⟨b0,b1,c1,c2,c3,c4,c5,c6,c7,c8⟩:=hk;exact beq_false_of_ne (by omega)
 have a3:(x/2097152==0)=false:=by obtain⟨b0,b1,c1,c2,c3,c4,c5,c6,c7,c8⟩:=hk;exact beq_false_of_ne (by omega)
 have a4:(x/268435456==0)=false:=by obtain⟨b0,b1,c1,c2,c3,c4,c5,c6,c7,c8⟩:=hk;exact beq_false_of_ne (by omega)
 have a5:(x/34359738368==0)=false:=by obtain⟨b0,b1,c1,c2,c3,c4,c5,c6,c7,c8⟩:=hk;exact beq_false_of_ne (by omega)
 have a6:(x/4398046511104==0)=true:=by obtain⟨b0,b1,c1,c2,c3,c4,c5,c6,c7,c8⟩:=hk;exact beq_iff_eq.2 (by omega)
 have hcv:=c8T
 have hsz:=sz1
 go_enter Try.func37,Try.ntmps37
 go_wp2
 refine wp_loop_rounds 6 ?_
 rw[rounds_succ]
 go_wp2
 rw[rounds_succ]
 go_wp2
 rw[rounds_succ]
 go_wp2
 rw[rounds_succ]
 go_wp2
 rw[rounds_succ]
 go_wp2
 rw[rounds_succ]
 go_wp2
 refine wp_loop_rounds 6 ?_
 rw[rounds_succ]
 go_wp2
 rw[rounds_succ]
 go_wp2
 rw[rounds_succ]
 go_wp2
 rw[rounds_succ]
 go_wp2
 rw[rounds_succ]
 go_wp2
 rw[rounds_succ]
 go_wp2
 refine wp_loop_rounds 6 ?_
 rw[rounds_succ]
 go_wp2
 rw[rounds_succ]
 go_wp2
 rw[rounds_succ]
 go_wp2
 rw[rounds_succ]
 go_wp2
 rw[rounds_succ]
 go_wp2
 rw[rounds_succ]
 go_wp2
 go_ret
 refine⟨?_,by(repeat (first|exact Below.refl _ _|refine Below.alloc ?_ (by simp;try omega) _))⟩
 refine(congrArg (fun t=>Ending.returned (Value.string t)) ?_:)
 rw[show(248+x/256/256/256/256/256)%256=248+x/256/256/256/256/256 by obtain⟨b0,b1,c1,c2,c3,c4,c5,c6,c7,c8⟩:=hk;omega]
 simp only[a4E,a4v,ByteArray.append_assoc,ByteArray.append_empty]
end Go.Proofs.Ytmmmknhdigapkaa.poolLays
namespace Go.Proofs.Ytmmmknhdigapkaa.poolLays
open Go.RowKit
set_option linter.unusedSimpArgs false
set_option linter.unusedVariables false
set_option maxRecDepth 100000 in
set_option maxHeartbeats 4000000 in
theorem d9j{x:Int}{s:ByteArray}{w:World}(h0:0≤x)(h1:x<18446744073709551616)(hk:NumK x 6)(hs:s.size≤1099511627776):
  Calls Try.prog 37 #[.string s,.int .u64 x] w fun e w'=>e= .returned (.string (s++strOfNums [252+x/256/256/256/256/256/256,x/256/256/256/256/256%256,x/256/256/256/256%256,x/256/256/256%256,x/256/256%256,x/256%256,x%256]))∧Below w.heap.size w w':=by
 have a1:(x/128==0)=false:=by obtain⟨b0,b1,c1,c2,c3,c4,c5,c6,c7,c8⟩:=hk;exact beq_false_of_ne (by omega)
 have a2:(x/16384==0)=false:=by obtain⟨b0,b1,c1,c2,c3,c4,c5,c6,c7,c8⟩:=hk;exact beq_false_of_ne (by omega)
 have a3:(x/2097152==0)=false:=by obtain⟨b0,b1,c1,c2,c3,c4,c5,c6,c7,c8⟩:=hk;exact beq_false_of_ne (by omega)
 have a4:(x/268435456==0)=false:=by obtain⟨b0,b1,c1,c2,c3,c4,c5,c6,c7,c8⟩:=hk;exact beq_false_of_ne (by omega)
 have a5:(x/34359738368==0)=false:=by obtain⟨b0,b1,c1,c2,c3,c4,c5,c6,c7,c8⟩:=hk;exact beq_false_of_ne (by omega)
 have a6:(x/4398046511104==0)=false:=by obtain⟨b0,b1,c1,c2,c3,c4,c5,c6,c7,c8⟩:=hk;exact beq_false_of_ne (by omega)
 have a7:(x/562949953421312==0)=true:=by obtain⟨b0,b1,c1,c2,c3,c4,c5,c6,c7,c8⟩:=hk;exact beq_iff_eq.2 (by omega)
 have hcv:=c8T
 have hsz:=sz1
 go_enter Try.func37,Try.ntmps37
 go_wp2
 refine wp_loop_rounds 7 ?_
 rw[rounds_succ]
 go_wp2
 rw[rounds_succ]
 go_wp2
 rw[rounds_succ]
 go_wp2
 rw[rounds_succ]
 go_wp2
 rw[rounds_succ]
 go_wp2
 rw[rounds_succ]
 go_wp2
 rw[rounds_succ]
 go_wp2
 refine wp_loop_rounds 7 ?_
 rw[rounds_succ]
 go_wp2
 rw[rounds_succ]
 go_wp2
 rw[rounds_succ]
 go_wp2
 rw[rounds_succ]
 go_wp2
 rw[rounds_succ]
 go_wp2
 rw[rounds_succ]
 go_wp2
 rw[rounds_succ]
 go_wp2
 refine wp_loop_rounds 7 ?_
 rw[rounds_succ]
 go_wp2
 rw[rounds_succ]
 go_wp2
 rw[rounds_succ]
 go_wp2
 rw[rounds_succ]
 go_wp2
 rw[rounds_succ]
 go_wp2
 rw[rounds_succ]
 go_wp2
 rw[rounds_succ]
 go_wp2
 go_ret
 refine⟨?_,by(repeat (first|exact Below.refl _ _|refine Below.alloc ?_ (by simp;try omega) _))⟩
 refine(congrArg (fun t=>Ending.returned (Value.string t)) ?_:)
 rw[show(252+x/256/256/256/256/256/256)%256=252+x/256/256/256/256/256/256 by obtain⟨b0,b1,c1,c2,c3,c4,c5,c6,c7,c8⟩:=hk;omega]
 simp only[a4E,a4v,ByteArray.append_assoc,ByteArray.append_empty]
end Go.Proofs.Ytmmmknhdigapkaa.poolLays
namespace Go.Proofs.Ytmmmknhdigapkaa.poolLays
open Go.RowKit
set_option linter.unusedSimpArgs false
set_option linter.unusedVariables false
set_option maxRecDepth 100000 in
set_option maxHeartbeats 4000000 in
theorem d9i{x:Int}{s:ByteArray}{w:World}(h0:0≤x)(h1:x<18446744073709551616)(hk:NumK x 7)(hs:s.size≤1099511627776):
  Calls Try.prog 37 #[.string s,.int .u64 x] w fun e w'=>e= .returned (.string (s++strOfNums [254+x/256/256/256/256/256/256/256,x/256/256/256/256/256/256%256,x/256/256/256/256/256%256,x/256/256/256/256%256,x/256/256/256%256,x/256/256%256,x/256%256,x%256]))∧Below w.heap.size w w':=by
 have a1:(x/128==0)=false:=by obtain⟨b0,b1,c1,c2,c3,c4,c5,c6,c7,c8⟩:=hk;exact beq_false_of_ne (by omega)
 have a2:(x/16384==0)=false:=by obtain⟨b0,b1,c1,c2,c3,c4,c5,c6,c7,c8⟩:=hk;exact beq_false_of_ne (by omega)
 have a3:(x/2097152==0)=false:=by obtain⟨b0,b1,c1,c2,c3,c4,c5,c6,c7,c8⟩:=hk;exact beq_false_of_ne (by omega)
 have a4:(x/268435456==0)=false:=by obtain⟨b0,b1,c1,c2,c3,c4,c5,c6,c7,c8⟩:=hk;exact beq_false_of_ne (by omega)
 have a5:(x/34359738368==0)=false:=by obtain⟨b0,b1,c1,c2,c3,c4,c5,c6,c7,c8⟩:=hk;exact beq_false_of_ne (by omega)
 have a6:(x/4398046511104==0)=false:=by obtain⟨b0,b1,c1,c2,c3,c4,c5,c6,c7,c8⟩:=hk;exact beq_false_of_ne (by omega)
 have a7:(x/562949953421312==0)=false:=by obtain⟨b0,b1,c1,c2,c3,c4,c5,c6,c7,c8⟩:=hk;exact beq_false_of_ne (by omega)
 have a8:(x/72057594037927936==0)=true:=by obtain⟨b0,b1,c1,c2,c3,c4,c5,c6,c7,c8⟩:=hk;exact beq_iff_eq.2 (by omega)
 have hcv:=c8T
 have hsz:=sz1
 go_enter Try.func37,Try.ntmps37
 go_wp2
 refine wp_loop_rounds 8 ?_
 rw[rounds_succ]
 go_wp2
 rw[rounds_succ]
 go_wp2
 rw[rounds_succ]
 go_wp2
 rw[rounds_succ]
 go_wp2
 rw[rounds_succ]
 go_wp2
 rw[rounds_succ]
 go_wp2
 rw[rounds_succ]
 go_wp2
 rw[rounds_succ]
 go_wp2
 refine wp_loop_rounds 8 ?_
 rw[rounds_succ]
 go_wp2
 rw[rounds_succ]
 go_wp2
 rw[rounds_succ]
 go_wp2
 rw[rounds_succ]
 go_wp2
 rw[rounds_succ]
 go_wp2
 rw[rounds_succ]
 go_wp2
 rw[rounds_succ]
 go_wp2
 rw[rounds_succ]
 go_wp2
 refine wp_loop_rounds 8 ?_
 rw[rounds_succ]
 go_wp2
 rw[rounds_succ]
 go_wp2
 rw[rounds_succ]
 go_wp2
 rw[rounds_succ]
 go_wp2
 rw[rounds_succ]
 go_wp2
 rw[rounds_succ]
 go_wp2
 rw[rounds_succ]
 go_wp2
 rw[rounds_succ]
 go_wp2
 go_ret
 refine⟨?_,by(repeat (first|exact Below.refl _ _|refine Below.alloc ?_ (by simp;try omega) _))⟩
 refine(congrArg (fun t=>Ending.returned (Value.string t)) ?_:)
 rw[show(254+x/256/256/256/256/256/256/256)%256=254+x/256/256/256/256/256/256/256 by obtain⟨b0,b1,c1,c2,c3,c4,c5,c6,c7,c8⟩:=hk;omega]
 simp only[a4E,a4v,ByteArray.append_assoc,ByteArray.append_empty]
end Go.Proofs.Ytmmmknhdigapkaa.poolLays
namespace Go.Proofs.Ytmmmknhdigapkaa.poolLays
open Go.RowKit
set_option linter.unusedSimpArgs false
set_option linter.unusedVariables false
set_option maxRecDepth 100000 in
set_option maxHeartbeats 4000000 in
theorem d9h{x:Int}{s:ByteArray}{w:World}(h0:0≤x)(h1:x<18446744073709551616)(hk:NumK x 8)(hs:s.size≤1099511627776):
  Calls Try.prog 37 #[.string s,.int .u64 x] w fun e w'=>e= .returned (.string (s++strOfNums [255+x/256/256/256/256/256/256/256/256,x/256/256/256/256/256/256/256,x/256/256/256/256/256/256%256,x/256/256/256/256/256%256,x/256/256/256/256%256,x/256/256/256%256,x/256/256%256,x/256%256,x%256]))∧Below w.heap.size w w':=by
 have a1:(x/128==0)=false:=by obtain⟨b0,b1,c1,c2,c3,c4,c5,c6,c7,c8⟩:=hk;exact beq_false_of_ne (by omega)
 have a2:(x/16384==0)=false:=by obtain⟨b0,b1,c1,c2,c3,c4,c5,c6,c7,c8⟩:=hk;exact beq_false_of_ne (by omega)
 have a3:(x/2097152==0)=false:=by obtain⟨b0,b1,c1,c2,c3,c4,c5,c6,c7,c8⟩:=hk;exact beq_false_of_ne (by omega)
 have a4:(x/268435456==0)=false:=by obtain⟨b0,b1,c1,c2,c3,c4,c5,c6,c7,c8⟩:=hk;exact beq_false_of_ne (by omega)
 have a5:(x/34359738368==0)=false:=by obtain⟨b0,b1,c1,c2,c3,c4,c5,c6,c7,c8⟩:=hk;exact beq_false_of_ne (by omega)
 have a6:(x/4398046511104==0)=false:=by obtain⟨b0,b1,c1,c2,c3,c4,c5,c6,c7,c8⟩:=hk;exact beq_false_of_ne (by omega)
 have a7:(x/562949953421312==0)=false:=by obtain⟨b0,b1,c1,c2,c3,c4,c5,c6,c7,c8⟩:=hk;exact beq_false_of_ne (by omega)
 have a8:(x/72057594037927936==0)=false:=by obtain⟨b0,b1,c1,c2,c3,c4,c5,c6,c7,c8⟩:=hk;exact beq_false_of_ne (by omega)
 have hcv:=c8T
 have hsz:=sz1
 go_enter Try.func37,Try.ntmps37
 go_wp2
 refine wp_loop_rounds 9 ?_
 rw[rounds_succ]
 go_wp2
 rw[rounds_succ]
 go_wp2
 rw[rounds_succ]
 go_wp2
 rw[rounds_succ]
 go_wp2
 rw[rounds_succ]
 go_wp2
 rw[rounds_succ]
 go_wp2
 rw[rounds_succ]
 go_wp2
 rw[rounds_succ]
 go_wp2
 rw[rounds_succ]
 go_wp2
 refine wp_loop_rounds 9 ?_
 rw[rounds_succ]
 go_wp2
 rw[rounds_succ]
 go_wp2
 rw[rounds_succ]
 go_wp2
 rw[rounds_succ]
 go_wp2
 rw[rounds_succ]
 go_wp2
 rw[rounds_succ]
 go_wp2
 rw[rounds_succ]
 go_wp2
 rw[rounds_succ]
 go_wp2
 rw[rounds_succ]
 go_wp2
 refine wp_loop_rounds 9 ?_
 rw[rounds_succ]
 go_wp2
 rw[rounds_succ]
 go_wp2
 rw[rounds_succ]
 go_wp2
 rw[rounds_succ]
 go_wp2
 rw[rounds_succ]
 go_wp2
 rw[rounds_succ]
 go_wp2
 rw[rounds_succ]
 go_wp2
 rw[rounds_succ]
 go_wp2
 rw[rounds_succ]
 go_wp2
 go_ret
 refine⟨?_,by(repeat (first|exact Below.refl _ _|refine Below.alloc ?_ (by simp;try omega) _))⟩
 refine(congrArg (fun t=>Ending.returned (Value.string t)) ?_:)
 rw[show x/256/256/256/256/256/256/256%256=x/256/256/256/256/256/256/256 by omega]
 simp only[a4E,a4v,ByteArray.append_assoc,ByteArray.append_empty]
end Go.Proofs.Ytmmmknhdigapkaa.poolLays
namespace Go.Proofs.Ytmmmknhdigapkaa.poolLays
open Go.RowKit
set_option linter.unusedSimpArgs false
set_option linter.unusedVariables false
def d7c(x:Int):List Int:=
 if x<128 then [0+x]else
 if x<16384 then [128+x/256,x%256]else
 if x<2097152 then [192+x/256/256,x/256%256,x%256]else
 if x<268435456 then [224+x/256/256/256,x/256/256%256,x/256%256,x%256]else
 if x<34359738368 then [240+x/256/256/256/256,x/256/256/256%256,x/256/256%256,x/256%256,x%256]else
 if x<4398046511104 then [248+x/256/256/256/256/256,x/256/256/256/256%256,x/256/256/256%256,x/256/256%256,x/256%256,x%256]else
 if x<562949953421312 then [252+x/256/256/256/256/256/256,x/256/256/256/256/256%256,x/256/256/256/256%256,x/256/256/256%256,x/256/256%256,x/256%256,x%256]else
 if x<72057594037927936 then [254+x/256/256/256/256/256/256/256,x/256/256/256/256/256/256%256,x/256/256/256/256/256%256,x/256/256/256/256%256,x/256/256/256%256,x/256/256%256,x/256%256,x%256]else
 [255+x/256/256/256/256/256/256/256/256,x/256/256/256/256/256/256/256,x/256/256/256/256/256/256%256,x/256/256/256/256/256%256,x/256/256/256/256%256,x/256/256/256%256,x/256/256%256,x/256%256,x%256]
def b6y(x:Int):ByteArray:=strOfNums (d7c x)
theorem le1{a:Int}{l:List Int}:1≤(a::l).length:=by simp
theorem le9{l:List Int}(h:Nat.ble l.length 9=true):l.length≤9:=Nat.le_of_ble_eq_true h
theorem b6x(x:Int):1≤(b6y x).size∧(b6y x).size≤9:=by
 unfold b6y
 rw[strOfNums_size]
 unfold d7c
 split
 ·exact⟨le1,le9 (by rfl)⟩
 split
 ·exact⟨le1,le9 (by rfl)⟩
 split
 ·exact⟨le1,le9 (by rfl)⟩
 split
 ·exact⟨le1,le9 (by rfl)⟩
 split
 ·exact⟨le1,le9 (by rfl)⟩
 split
 ·exact⟨le1,le9 (by rfl)⟩
 split
 ·exact⟨le1,le9 (by rfl)⟩
 split
 ·exact⟨le1,le9 (by rfl)⟩
 exact⟨le1,le9 (by rfl)⟩
theorem b0E{x:Int}{s:ByteArray}{w:World}(h0:0≤x)(h1:x<18446744073709551616)(hs:s.size≤1099511627776):
  Calls Try.prog 35 #[.string s,.int .u64 x] w fun e w'=>e= .returned (.string (s++b6y x))∧Below w.heap.size w w':=by
 unfold b6y d7c
 split
 ·exact e3o h0 h1 (by constructor<;>omega) hs
 split
 ·exact put1 h0 h1 (by constructor<;>omega) hs
 split
 ·exact e3n h0 h1 (by constructor<;>omega) hs
 split
 ·exact e3m h0 h1 (by constructor<;>omega) hs
 split
 ·exact e3l h0 h1 (by constructor<;>omega) hs
 split
 ·exact e3k h0 h1 (by constructor<;>omega) hs
 split
 ·exact e3j h0 h1 (by constructor<;>omega) hs
 split
 ·exact e3i h0 h1 (by constructor<;>omega) hs
 exact e3h h0 h1 (by constructor<;>omega) hs
theorem a4y{x:Int}{s:ByteArray}{w:World}(h0:0≤x)(h1:x<18446744073709551616)(hs:s.size≤1099511627776):
  Calls Try.prog 37 #[.string s,.int .u64 x] w fun e w'=>e= .returned (.string (s++b6y x))∧Below w.heap.size w w':=by
 unfold b6y d7c
 split
 ·exact d9p h0 h1 (by constructor<;>omega) hs
 split
 ·exact d9o h0 h1 (by constructor<;>omega) hs
 split
 ·exact d9n h0 h1 (by constructor<;>omega) hs
 split
 ·exact d9m h0 h1 (by constructor<;>omega) hs
 split
 ·exact d9l h0 h1 (by constructor<;>omega) hs
 split
 ·exact d9k h0 h1 (by constructor<;>omega) hs
 split
 ·exact d9j h0 h1 (by constructor<;>omega) hs
 split
 ·exact d9i h0 h1 (by constructor<;>omega) hs
 exact d9h h0 h1 (by constructor<;>omega) hs
def zig(n:Int):Int:=if n<0 then -2*n-1 else 2*n
theorem c8p{n:Int}(h0: -9223372036854775808≤n)(h1:n≤9223372036854775807):0≤zig n∧zig n<18446744073709551616:=by
 unfold zig
 split<;>omega
theorem c0j{y:Int}(h0:0≤y)(h1:y<18446744073709551616):(BitVec.ofInt 64 y).toNat=y.toNat:=by
 rw[BitVec.toNat_ofInt]
 omega
theorem bx0{y:Int}(h0:0≤y)(h1:y<18446744073709551616):bits BinOp.xor IntKind.u64 y 0=y:=by
 have h:=c0j h0 h1
 show IntKind.u64.wrap ((BitVec.ofInt 64 y^^^BitVec.ofInt 64 0).toNat:Int)=y
 rw[show(BitVec.ofInt 64 0)=0#64 from rfl,BitVec.xor_zero,h,IntKind.wrap_u64]
 omega
theorem bxF{y:Int}(h0:0≤y)(h1:y<18446744073709551616):bits BinOp.xor IntKind.u64 y 18446744073709551615=18446744073709551615-y:=by
 have h:=c0j h0 h1
 show IntKind.u64.wrap ((BitVec.ofInt 64 y^^^BitVec.ofInt 64 18446744073709551615).toNat:Int)=_
 rw[show(BitVec.ofInt 64 18446744073709551615)=BitVec.allOnes 64 from by decide,BitVec.xor_allOnes,BitVec.toNat_not,h,IntKind.wrap_u64]
 omega
theorem c6b{n:Int}(h0: -9223372036854775808≤n)(h1:n≤9223372036854775807):
  bits BinOp.xor IntKind.u64 (IntKind.u64.wrap (IntKind.u64.wrap n*2)) (IntKind.u64.wrap (n/9223372036854775808))=zig n:=by
 unfold zig
 split
 ·rw[show IntKind.u64.wrap (n/9223372036854775808)=18446744073709551615 by rw[IntKind.wrap_u64];omega,bxF (by rw[IntKind.wrap_u64];omega) (by rw[IntKind.wrap_u64];omega),IntKind.wrap_u64,IntKind.wrap_u64]
  omega
 ·rw[show IntKind.u64.wrap (n/9223372036854775808)=0 by rw[IntKind.wrap_u64];omega,bx0 (by rw[IntKind.wrap_u64];omega) (by rw[IntKind.wrap_u64];omega),IntKind.wrap_u64,IntKind.wrap_u64]
  omega
set_option maxRecDepth 100000 in
theorem b6p{n:Int}{s:ByteArray}{w:World}(h0: -9223372036854775808≤n)(h1:n≤9223372036854775807)(hs:s.size≤1099511627776):
  Calls Try.prog 54 #[.string s,.int .i64 n] w fun e w'=>e= .returned (.string (s++b6y (zig n)))∧Below w.heap.size w w':=by
 have hz:=c8p h0 h1
 go_enter Try.func54,Try.ntmps54
 go_wp2_with (go_at_call 35;rw[c6b h0 h1];refine(b0E hz.1 hz.2 hs).mono ?_;rintro e w' ⟨rfl,hb⟩)
 go_ret
 exact⟨rfl,by assumption⟩
set_option maxRecDepth 100000 in
theorem b4m{n:Int}{s:ByteArray}{w:World}(h0: -9223372036854775808≤n)(h1:n≤9223372036854775807)(hs:s.size≤1099511627776):
  Calls Try.prog 38 #[.string s,.int .i64 n] w fun e w'=>e= .returned (.string (s++b6y (zig n)))∧Below w.heap.size w w':=by
 have hz:=c8p h0 h1
 by_cases hn:n<0
 ·have e:zig n= -(n+1)*2+1:=by unfold zig;rw[if_pos hn];omega
  rw[e]at hz ⊢
  go_enter Try.func38,Try.ntmps38
  go_wp2_with (go_at_call 37;refine(a4y hz.1 hz.2 hs).mono ?_;rintro e w' ⟨rfl,hb⟩)
  go_ret
  exact⟨rfl,by assumption⟩
 ·have e:zig n=n*2:=by unfold zig;rw[if_neg hn];omega
  rw[e]at hz ⊢
  go_enter Try.func38,Try.ntmps38
  go_wp2_with (go_at_call 37;refine(a4y hz.1 hz.2 hs).mono ?_;rintro e w' ⟨rfl,hb⟩)
  go_ret
  exact⟨rfl,by assumption⟩
end Go.Proofs.Ytmmmknhdigapkaa.poolLays
namespace Go.Proofs.Ytmmmknhdigapkaa.poolLays
open Go.RowKit
theorem e0C:Go.Ev.d9g Try.prog [13] [29,30,31,46,49,50,51,70,71,72,73] 1 20000 12=true:=by kernel_rfl
theorem d8d(w:World):Calls Try.prog 12 #[] w fun e w'=>e= .returned (.bool true)∧Below w.heap.size w w':=
 Go.Ev.c2N (Go.Ev.b4z plq.b8w) plq.mixed e0C w
end Go.Proofs.Ytmmmknhdigapkaa.poolLays
