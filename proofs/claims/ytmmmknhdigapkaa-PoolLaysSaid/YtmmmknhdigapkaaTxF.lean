/-
  PutNum, 0 bytes more.
-/
import Derived.Test.YtmmmknhdigapkaaTxM
import Derived.WalkKit
import Derived.RegionTactic
import Derived.ChangeAlike
import Derived.StillTailTactics
namespace Go.Proofs.Ytmmmknhdigapkaa.poolLays
open Go.RowKit
set_option linter.unusedVariables false
theorem or0{y:Int}(h0:0≤y)(h1:y<128):bits BinOp.or IntKind.u8 y 0=0+y:=by
 have h:((List.range 128).all fun n=>bits BinOp.or IntKind.u8 (n:Int) 0==0+(n:Int))=true:=by kernel_rfl
 have:=(List.all_eq_true.1 h) y.toNat (List.mem_range.2 (by omega))
 rw[show((y.toNat:Nat):Int)=y by omega]at this
 exact eq_of_beq this
set_option maxRecDepth 100000 in
set_option maxHeartbeats 4000000 in
theorem e3o{x:Int}{s:ByteArray}{w:World}(h0:0≤x)(h1:x<18446744073709551616)(hk:NumK x 0)(hs:s.size≤1099511627776):
  Calls Try.prog 35 #[.string s,.int .u64 x] w fun e w'=>e= .returned (.string (s++strOfNums [0+x]))∧Below w.heap.size w w':=by
 go_enter Try.func35,Try.ntmps35
 go_wp2_with (go_at_call 52;refine(a8D h0 h1 (by go_simp)).mono ?_;rintro e w' ⟨n,rfl,rfl,hn⟩;obtain rfl:=NumK.uniq hk hn)
 refine wp_loop_rounds 1 ?_
 rw[rounds_succ]
 go_wp2
 go_region
 rw[show(if IntKind.u8.signed=true then -1 else IntKind.u8.max)=255 from rfl,show bits BinOp.xor IntKind.u8 255 255=0 from by kernel_rfl]
 have hw: ∃W R v n0,W=(((w.alloc (Obj.cells #[Value.int IntKind.u64 v] 71)).alloc
      (Obj.cells #[Value.int IntKind.u8 n0,Value.int IntKind.u8 0,Value.int IntKind.u8 0,Value.int IntKind.u8 0,Value.int IntKind.u8 0,Value.int IntKind.u8 0,Value.int IntKind.u8 0,Value.int IntKind.u8 0,Value.int IntKind.u8 0] 95)).drew)∧R=w.heap.size+1∧v=x∧n0=bits BinOp.or IntKind.u8 (x%256) 0:=⟨_,_,_,_,rfl,rfl,rfl,rfl⟩
 obtain⟨W,R,v,n0,eW,eR,ev,e0⟩:=hw
 have hb6:Below w.heap.size w W:=by
  subst eW
  exact((((Below.refl _ w).alloc (Nat.le_refl _) _).alloc (by simp) _)).drew
 have hR:W.heap[R]? =some (.cells #[Value.int IntKind.u8 n0,Value.int IntKind.u8 0,Value.int IntKind.u8 0,Value.int IntKind.u8 0,Value.int IntKind.u8 0,Value.int IntKind.u8 0,Value.int IntKind.u8 0,Value.int IntKind.u8 0,Value.int IntKind.u8 0] 95 (0,0)):=by
  subst eW eR
  exact a5P w _ _
 rw[←e0,←ev,←eW,←eR]
 have hv:Hid (([n0]:List Int)= [0+x]):=by
  show _=_
  rw[e0,show x%256=x by obtain⟨b0,b1,c1,c2,c3,c4,c5,c6,c7,c8⟩:=hk;omega,or0 (by omega) (by obtain⟨b0,b1,c1,c2,c3,c4,c5,c6,c7,c8⟩:=hk;omega)]
 clear e0 eW eR ev
 go_wp2
 rw[a8N (m:=s.size+1) (by omega) (by omega)]
 simp only[Result.andThen_ok,Oper.upon_value]
 apply_assumption
 have hg1:=at_new W (Obj.cells (List.replicate (s.size+1) z8).toArray 5)
 have hR1:=a8t W (Obj.cells (List.replicate (s.size+1) z8).toArray 5) hR
 have hb1:=hb6.alloc hb6.size (Obj.cells (List.replicate (s.size+1) z8).toArray 5)
 have hge:=hb6.size
 have hRg:R≠W.heap.size:=Nat.ne_of_lt (Array.getElem?_eq_some_iff.1 hR).1
 generalize W.alloc (Obj.cells (List.replicate (s.size+1) z8).toArray 5)=W1 at*
 generalize W.heap.size=g at*
 clear hR hb6
 go_wp2
 rw[a5L (a:=s.size) (b:=1) rfl hg1 rfl]
 simp only[Result.andThen_ok,Oper.upon_value]
 apply_assumption
 have hg2:=setRow_heap W1 g _ (Lib.byteCells s.data.toList++List.replicate 1 z8).toArray 5 _ hg1
 have hR2:=(setRow_other W1 g R (Lib.byteCells s.data.toList++List.replicate 1 z8).toArray hRg).trans hR1
 have hb2:=below_setRow hb1 hge (Lib.byteCells s.data.toList++List.replicate 1 z8).toArray
 generalize W1.setRow g (Lib.byteCells s.data.toList++List.replicate 1 z8).toArray=W2 at*
 clear hg1 hR1 hb1
 go_wp2
 have hle:(s.size:Int)≤(s.size:Int)+1:=by omega
 have hsl:=fun W=>a8F W R (n:=1) (by decide) (v:=IntKind.i64.wrap 1) (by kernel_rfl)
 go_still_tail 7,(by kernel_rfl)
 have hg3:W2.drew.heap[g]? =_:=hg2
 have hR3:W2.drew.heap[R]? =_:=hR2
 have hb3:Below w.heap.size w W2.drew:=hb2.drew
 change wpList _ _ _ _ _ W2.drew
 generalize W2.drew=W3 at*
 clear hg2 hR2 hb2 hle hsl
 go_wp2
 rw[a5K (b:=1) (s:=s) (xs:=[n0]) (rest:=[z8,z8,z8,z8,z8,z8,z8,z8]) hg3 hR3 rfl rfl]
 simp only[Result.andThen_ok,Oper.upon_value]
 apply_assumption
 have hg4:=setRow_heap W3 g _ (Lib.byteCells s.data.toList++b8 [n0]).toArray 5 _ hg3
 have hb4:=below_setRow hb3 hge (Lib.byteCells s.data.toList++b8 [n0]).toArray
 generalize W3.setRow g (Lib.byteCells s.data.toList++b8 [n0]).toArray=W4 at*
 clear hg3 hR3 hb3
 have hcv:=a8k (n:=s.size+1) (m:=s.size+1) hg4 rfl
 clear hg4
 go_wp2
 go_ret
 have hv2:([n0]:List Int)= [0+x]:=hv
 exact⟨by rw[←hv2];rfl,hb4⟩
end Go.Proofs.Ytmmmknhdigapkaa.poolLays
namespace Go.Proofs.Ytmmmknhdigapkaa.poolLays
open Go.RowKit
set_option linter.unusedVariables false
theorem or1{y:Int}(h0:0≤y)(h1:y<64):bits BinOp.or IntKind.u8 y 128=128+y:=by
 have h:((List.range 64).all fun n=>bits BinOp.or IntKind.u8 (n:Int) 128==128+(n:Int))=true:=by kernel_rfl
 have:=(List.all_eq_true.1 h) y.toNat (List.mem_range.2 (by omega))
 rw[show((y.toNat:Nat):Int)=y by omega]at this
 exact eq_of_beq this
set_option maxRecDepth 100000 in
set_option maxHeartbeats 4000000 in
theorem put1{x:Int}{s:ByteArray}{w:World}(h0:0≤x)(h1:x<18446744073709551616)(hk:NumK x 1)(hs:s.size≤1099511627776):
  Calls Try.prog 35 #[.string s,.int .u64 x] w fun e w'=>e= .returned (.string (s++strOfNums [128+x/256,x%256]))∧Below w.heap.size w w':=by
 go_enter Try.func35,Try.ntmps35
 go_wp2_with (go_at_call 52;refine(a8D h0 h1 (by go_simp)).mono ?_;rintro e w' ⟨n,rfl,rfl,hn⟩;obtain rfl:=NumK.uniq hk hn)
 refine wp_loop_rounds 2 ?_
 rw[rounds_succ]
 go_wp2
 rw[rounds_succ]
 go_wp2
 go_region
 rw[show(if IntKind.u8.signed=true then -1 else IntKind.u8.max)=255 from rfl,show bits BinOp.xor IntKind.u8 255 127=128 from by kernel_rfl]
 have hw: ∃W R v n0 n1,W=(((w.alloc (Obj.cells #[Value.int IntKind.u64 v] 71)).alloc
      (Obj.cells #[Value.int IntKind.u8 n0,Value.int IntKind.u8 n1,Value.int IntKind.u8 0,Value.int IntKind.u8 0,Value.int IntKind.u8 0,Value.int IntKind.u8 0,Value.int IntKind.u8 0,Value.int IntKind.u8 0,Value.int IntKind.u8 0] 95)).drew)∧R=w.heap.size+1∧v=x/256∧n0=bits BinOp.or IntKind.u8 (x/256%256) 128∧n1=x%256:=⟨_,_,_,_,_,rfl,rfl,rfl,rfl,rfl⟩
 obtain⟨W,R,v,n0,n1,eW,eR,ev,e0,e1⟩:=hw
 have hb6:Below w.heap.size w W:=by
  subst eW
  exact((((Below.refl _ w).alloc (Nat.le_refl _) _).alloc (by simp) _)).drew
 have hR:W.heap[R]? =some (.cells #[Value.int IntKind.u8 n0,Value.int IntKind.u8 n1,Value.int IntKind.u8 0,Value.int IntKind.u8 0,Value.int IntKind.u8 0,Value.int IntKind.u8 0,Value.int IntKind.u8 0,Value.int IntKind.u8 0,Value.int IntKind.u8 0] 95 (0,0)):=by
  subst eW eR
  exact a5P w _ _
 rw[←e0,←ev,←e1,←eW,←eR]
 have hv:Hid (([n0,n1]:List Int)= [128+x/256,x%256]):=by
  show _=_
  rw[e0,e1,show x/256%256=x/256 by obtain⟨b0,b1,c1,c2,c3,c4,c5,c6,c7,c8⟩:=hk;omega,or1 (by omega) (by obtain⟨b0,b1,c1,c2,c3,c4,c5,c6,c7,c8⟩:=hk;omega)]
 clear e0 e1 eW eR ev
 go_wp2
 rw[a8N (m:=s.size+2) (by omega) (by omega)]
 simp only[Result.andThen_ok,Oper.upon_value]
 apply_assumption
 have hg1:=at_new W (Obj.cells (List.replicate (s.size+2) z8).toArray 5)
 have hR1:=a8t W (Obj.cells (List.replicate (s.size+2) z8).toArray 5) hR
 have hb1:=hb6.alloc hb6.size (Obj.cells (List.replicate (s.size+2) z8).toArray 5)
 have hge:=hb6.size
 have hRg:R≠W.heap.size:=Nat.ne_of_lt (Array.getElem?_eq_some_iff.1 hR).1
 generalize W.alloc (Obj.cells (List.replicate (s.size+2) z8).toArray 5)=W1 at*
 generalize W.heap.size=g at*
 clear hR hb6
 go_wp2
 rw[a5L (a:=s.size) (b:=2) rfl hg1 rfl]
 simp only[Result.andThen_ok,Oper.upon_value]
 apply_assumption
 have hg2:=setRow_heap W1 g _ (Lib.byteCells s.data.toList++List.replicate 2 z8).toArray 5 _ hg1
 have hR2:=(setRow_other W1 g R (Lib.byteCells s.data.toList++List.replicate 2 z8).toArray hRg).trans hR1
 have hb2:=below_setRow hb1 hge (Lib.byteCells s.data.toList++List.replicate 2 z8).toArray
 generalize W1.setRow g (Lib.byteCells s.data.toList++List.replicate 2 z8).toArray=W2 at*
 clear hg1 hR1 hb1
 go_wp2
 have hle:(s.size:Int)≤(s.size:Int)+2:=by omega
 have hsl:=fun W=>a8F W R (n:=2) (by decide) (v:=IntKind.i64.wrap 2) (by kernel_rfl)
 go_still_tail 7,(by kernel_rfl)
 have hg3:W2.drew.heap[g]? =_:=hg2
 have hR3:W2.drew.heap[R]? =_:=hR2
 have hb3:Below w.heap.size w W2.drew:=hb2.drew
 change wpList _ _ _ _ _ W2.drew
 generalize W2.drew=W3 at*
 clear hg2 hR2 hb2 hle hsl
 go_wp2
 rw[a5K (b:=2) (s:=s) (xs:=[n0,n1]) (rest:=[z8,z8,z8,z8,z8,z8,z8]) hg3 hR3 rfl rfl]
 simp only[Result.andThen_ok,Oper.upon_value]
 apply_assumption
 have hg4:=setRow_heap W3 g _ (Lib.byteCells s.data.toList++b8 [n0,n1]).toArray 5 _ hg3
 have hb4:=below_setRow hb3 hge (Lib.byteCells s.data.toList++b8 [n0,n1]).toArray
 generalize W3.setRow g (Lib.byteCells s.data.toList++b8 [n0,n1]).toArray=W4 at*
 clear hg3 hR3 hb3
 have hcv:=a8k (n:=s.size+2) (m:=s.size+2) hg4 rfl
 clear hg4
 go_wp2
 go_ret
 have hv2:([n0,n1]:List Int)= [128+x/256,x%256]:=hv
 exact⟨by rw[←hv2];rfl,hb4⟩
end Go.Proofs.Ytmmmknhdigapkaa.poolLays
namespace Go.Proofs.Ytmmmknhdigapkaa.poolLays
open Go.RowKit
set_option linter.unusedVariables false
theorem or2{y:Int}(h0:0≤y)(h1:y<32):bits BinOp.or IntKind.u8 y 192=192+y:=by
 have h:((List.range 32).all fun n=>bits BinOp.or IntKind.u8 (n:Int) 192==192+(n:Int))=true:=by kernel_rfl
 have:=(List.all_eq_true.1 h) y.toNat (List.mem_range.2 (by omega))
 rw[show((y.toNat:Nat):Int)=y by omega]at this
 exact eq_of_beq this
set_option maxRecDepth 100000 in
set_option maxHeartbeats 4000000 in
theorem e3n{x:Int}{s:ByteArray}{w:World}(h0:0≤x)(h1:x<18446744073709551616)(hk:NumK x 2)(hs:s.size≤1099511627776):
  Calls Try.prog 35 #[.string s,.int .u64 x] w fun e w'=>e= .returned (.string (s++strOfNums [192+x/256/256,x/256%256,x%256]))∧Below w.heap.size w w':=by
 go_enter Try.func35,Try.ntmps35
 go_wp2_with (go_at_call 52;refine(a8D h0 h1 (by go_simp)).mono ?_;rintro e w' ⟨n,rfl,rfl,hn⟩;obtain rfl:=NumK.uniq hk hn)
 refine wp_loop_rounds 3 ?_
 rw[rounds_succ]
 go_wp2
 rw[rounds_succ]
 go_wp2
 rw[rounds_succ]
 go_wp2
 go_region
 rw[show(if IntKind.u8.signed=true then -1 else IntKind.u8.max)=255 from rfl,show bits BinOp.xor IntKind.u8 255 63=192 from by kernel_rfl]
 have hw: ∃W R v n0 n1 n2,W=(((w.alloc (Obj.cells #[Value.int IntKind.u64 v] 71)).alloc
      (Obj.cells #[Value.int IntKind.u8 n0,Value.int IntKind.u8 n1,Value.int IntKind.u8 n2,Value.int IntKind.u8 0,Value.int IntKind.u8 0,Value.int IntKind.u8 0,Value.int IntKind.u8 0,Value.int IntKind.u8 0,Value.int IntKind.u8 0] 95)).drew)∧R=w.heap.size+1∧v=x/256/256∧n0=bits BinOp.or IntKind.u8 (x/256/256%256) 192∧n1=x/256%256∧n2=x%256:=⟨_,_,_,_,_,_,rfl,rfl,rfl,rfl,rfl,rfl⟩
 obtain⟨W,R,v,n0,n1,n2,eW,eR,ev,e0,e1,e2⟩:=hw
 have hb6:Below w.heap.size w W:=by
  subst eW
  exact((((Below.refl _ w).alloc (Nat.le_refl _) _).alloc (by simp) _)).drew
 have hR:W.heap[R]? =some (.cells #[Value.int IntKind.u8 n0,Value.int IntKind.u8 n1,Value.int IntKind.u8 n2,Value.int IntKind.u8 0,Value.int IntKind.u8 0,Value.int IntKind.u8 0,Value.int IntKind.u8 0,Value.int IntKind.u8 0,Value.int IntKind.u8 0] 95 (0,0)):=by
  subst eW eR
  exact a5P w _ _
 rw[←e0,←ev,←e1,←e2,←eW,←eR]
 have hv:Hid (([n0,n1,n2]:List Int)= [192+x/256/256,x/256%256,x%256]):=by
  show _=_
  rw[e0,e1,e2,show x/256/256%256=x/256/256 by obtain⟨b0,b1,c1,c2,c3,c4,c5,c6,c7,c8⟩:=hk;omega,or2 (by omega) (by obtain⟨b0,b1,c1,c2,c3,c4,c5,c6,c7,c8⟩:=hk;omega)]
 clear e0 e1 e2 eW eR ev
 go_wp2
 rw[a8N (m:=s.size+3) (by omega) (by omega)]
 simp only[Result.andThen_ok,Oper.upon_value]
 apply_assumption
 have hg1:=at_new W (Obj.cells (List.replicate (s.size+3) z8).toArray 5)
 have hR1:=a8t W (Obj.cells (List.replicate (s.size+3) z8).toArray 5) hR
 have hb1:=hb6.alloc hb6.size (Obj.cells (List.replicate (s.size+3) z8).toArray 5)
 have hge:=hb6.size
 have hRg:R≠W.heap.size:=Nat.ne_of_lt (Array.getElem?_eq_some_iff.1 hR).1
 generalize W.alloc (Obj.cells (List.replicate (s.size+3) z8).toArray 5)=W1 at*
 generalize W.heap.size=g at*
 clear hR hb6
 go_wp2
 rw[a5L (a:=s.size) (b:=3) rfl hg1 rfl]
 simp only[Result.andThen_ok,Oper.upon_value]
 apply_assumption
 have hg2:=setRow_heap W1 g _ (Lib.byteCells s.data.toList++List.replicate 3 z8).toArray 5 _ hg1
 have hR2:=(setRow_other W1 g R (Lib.byteCells s.data.toList++List.replicate 3 z8).toArray hRg).trans hR1
 have hb2:=below_setRow hb1 hge (Lib.byteCells s.data.toList++List.replicate 3 z8).toArray
 generalize W1.setRow g (Lib.byteCells s.data.toList++List.replicate 3 z8).toArray=W2 at*
 clear hg1 hR1 hb1
 go_wp2
 have hle:(s.size:Int)≤(s.size:Int)+3:=by omega
 have hsl:=fun W=>a8F W R (n:=3) (by decide) (v:=IntKind.i64.wrap 3) (by kernel_rfl)
 go_still_tail 7,(by kernel_rfl)
 have hg3:W2.drew.heap[g]? =_:=hg2
 have hR3:W2.drew.heap[R]? =_:=hR2
 have hb3:Below w.heap.size w W2.drew:=hb2.drew
 change wpList _ _ _ _ _ W2.drew
 generalize W2.drew=W3 at*
 clear hg2 hR2 hb2 hle hsl
 go_wp2
 rw[a5K (b:=3) (s:=s) (xs:=[n0,n1,n2]) (rest:=[z8,z8,z8,z8,z8,z8]) hg3 hR3 rfl rfl]
 simp only[Result.andThen_ok,Oper.upon_value]
 apply_assumption
 have hg4:=setRow_heap W3 g _ (Lib.byteCells s.data.toList++b8 [n0,n1,n2]).toArray 5 _ hg3
 have hb4:=below_setRow hb3 hge (Lib.byteCells s.data.toList++b8 [n0,n1,n2]).toArray
 generalize W3.setRow g (Lib.byteCells s.data.toList++b8 [n0,n1,n2]).toArray=W4 at*
 clear hg3 hR3 hb3
 have hcv:=a8k (n:=s.size+3) (m:=s.size+3) hg4 rfl
 clear hg4
 go_wp2
 go_ret
 have hv2:([n0,n1,n2]:List Int)= [192+x/256/256,x/256%256,x%256]:=hv
 exact⟨by rw[←hv2];rfl,hb4⟩
end Go.Proofs.Ytmmmknhdigapkaa.poolLays
namespace Go.Proofs.Ytmmmknhdigapkaa.poolLays
open Go.RowKit
set_option linter.unusedVariables false
theorem or3{y:Int}(h0:0≤y)(h1:y<16):bits BinOp.or IntKind.u8 y 224=224+y:=by
 have h:((List.range 16).all fun n=>bits BinOp.or IntKind.u8 (n:Int) 224==224+(n:Int))=true:=by kernel_rfl
 have:=(List.all_eq_true.1 h) y.toNat (List.mem_range.2 (by omega))
 rw[show((y.toNat:Nat):Int)=y by omega]at this
 exact eq_of_beq this
set_option maxRecDepth 100000 in
set_option maxHeartbeats 4000000 in
theorem e3m{x:Int}{s:ByteArray}{w:World}(h0:0≤x)(h1:x<18446744073709551616)(hk:NumK x 3)(hs:s.size≤1099511627776):
  Calls Try.prog 35 #[.string s,.int .u64 x] w fun e w'=>e= .returned (.string (s++strOfNums [224+x/256/256/256,x/256/256%256,x/256%256,x%256]))∧Below w.heap.size w w':=by
 go_enter Try.func35,Try.ntmps35
 go_wp2_with (go_at_call 52;refine(a8D h0 h1 (by go_simp)).mono ?_;rintro e w' ⟨n,rfl,rfl,hn⟩;obtain rfl:=NumK.uniq hk hn)
 refine wp_loop_rounds 4 ?_
 rw[rounds_succ]
 go_wp2
 rw[rounds_succ]
 go_wp2
 rw[rounds_succ]
 go_wp2
 rw[rounds_succ]
 go_wp2
 go_region
 rw[show(if IntKind.u8.signed=true then -1 else IntKind.u8.max)=255 from rfl,show bits BinOp.xor IntKind.u8 255 31=224 from by kernel_rfl]
 have hw: ∃W R v n0 n1 n2 n3,W=(((w.alloc (Obj.cells #[Value.int IntKind.u64 v] 71)).alloc
      (Obj.cells #[Value.int IntKind.u8 n0,Value.int IntKind.u8 n1,Value.int IntKind.u8 n2,Value.int IntKind.u8 n3,Value.int IntKind.u8 0,Value.int IntKind.u8 0,Value.int IntKind.u8 0,Value.int IntKind.u8 0,Value.int IntKind.u8 0] 95)).drew)∧R=w.heap.size+1∧v=x/256/256/256∧n0=bits BinOp.or IntKind.u8 (x/256/256/256%256) 224∧n1=x/256/256%256∧n2=x/256%256∧n3=x%256:=⟨_,_,_,_,_,_,_,rfl,rfl,rfl,rfl,rfl,rfl,rfl⟩
 obtain⟨W,R,v,n0,n1,n2,n3,eW,eR,ev,e0,e1,e2,e3⟩:=hw
 have hb6:Below w.heap.size w W:=by
  subst eW
  exact((((Below.refl _ w).alloc (Nat.le_refl _) _).alloc (by simp) _)).drew
 have hR:W.heap[R]? =some (.cells #[Value.int IntKind.u8 n0,Value.int IntKind.u8 n1,Value.int IntKind.u8 n2,Value.int IntKind.u8 n3,Value.int IntKind.u8 0,Value.int IntKind.u8 0,Value.int IntKind.u8 0,Value.int IntKind.u8 0,Value.int IntKind.u8 0] 95 (0,0)):=by
  subst eW eR
  exact a5P w _ _
 rw[←e0,←ev,←e1,←e2,←e3,←eW,←eR]
 have hv:Hid (([n0,n1,n2,n3]:List Int)= [224+x/256/256/256,x/256/256%256,x/256%256,x%256]):=by
  show _=_
  rw[e0,e1,e2,e3,show x/256/256/256%256=x/256/256/256 by obtain⟨b0,b1,c1,c2,c3,c4,c5,c6,c7,c8⟩:=hk;omega,or3 (by omega) (by obtain⟨b0,b1,c1,c2,c3,c4,c5,c6,c7,c8⟩:=hk;omega)]
 clear e0 e1 e2 e3 eW eR ev
 go_wp2
 rw[a8N (m:=s.size+4) (by omega) (by omega)]
 simp only[Result.andThen_ok,Oper.upon_value]
 apply_assumption
 have hg1:=at_new W (Obj.cells (List.replicate (s.size+4) z8).toArray 5)
 have hR1:=a8t W (Obj.cells (List.replicate (s.size+4) z8).toArray 5) hR
 have hb1:=hb6.alloc hb6.size (Obj.cells (List.replicate (s.size+4) z8).toArray 5)
 have hge:=hb6.size
 have hRg:R≠W.heap.size:=Nat.ne_of_lt (Array.getElem?_eq_some_iff.1 hR).1
 generalize W.alloc (Obj.cells (List.replicate (s.size+4) z8).toArray 5)=W1 at*
 generalize W.heap.size=g at*
 clear hR hb6
 go_wp2
 rw[a5L (a:=s.size) (b:=4) rfl hg1 rfl]
 simp only[Result.andThen_ok,Oper.upon_value]
 apply_assumption
 have hg2:=setRow_heap W1 g _ (Lib.byteCells s.data.toList++List.replicate 4 z8).toArray 5 _ hg1
 have hR2:=(setRow_other W1 g R (Lib.byteCells s.data.toList++List.replicate 4 z8).toArray hRg).trans hR1
 have hb2:=below_setRow hb1 hge (Lib.byteCells s.data.toList++List.replicate 4 z8).toArray
 generalize W1.setRow g (Lib.byteCells s.data.toList++List.replicate 4 z8).toArray=W2 at*
 clear hg1 hR1 hb1
 go_wp2
 have hle:(s.size:Int)≤(s.size:Int)+4:=by omega
 have hsl:=fun W=>a8F W R (n:=4) (by decide) (v:=IntKind.i64.wrap 4) (by kernel_rfl)
 go_still_tail 7,(by kernel_rfl)
 have hg3:W2.drew.heap[g]? =_:=hg2
 have hR3:W2.drew.heap[R]? =_:=hR2
 have hb3:Below w.heap.size w W2.drew:=hb2.drew
 change wpList _ _ _ _ _ W2.drew
 generalize W2.drew=W3 at*
 clear hg2 hR2 hb2 hle hsl
 go_wp2
 rw[a5K (b:=4) (s:=s) (xs:=[n0,n1,n2,n3]) (rest:=[z8,z8,z8,z8,z8]) hg3 hR3 rfl rfl]
 simp only[Result.andThen_ok,Oper.upon_value]
 apply_assumption
 have hg4:=setRow_heap W3 g _ (Lib.byteCells s.data.toList++b8 [n0,n1,n2,n3]).toArray 5 _ hg3
 have hb4:=below_setRow hb3 hge (Lib.byteCells s.data.toList++b8 [n0,n1,n2,n3]).toArray
 generalize W3.setRow g (Lib.byteCells s.data.toList++b8 [n0,n1,n2,n3]).toArray=W4 at*
 clear hg3 hR3 hb3
 have hcv:=a8k (n:=s.size+4) (m:=s.size+4) hg4 rfl
 clear hg4
 go_wp2
 go_ret
 have hv2:([n0,n1,n2,n3]:List Int)= [224+x/256/256/256,x/256/256%256,x/256%256,x%256]:=hv
 exact⟨by rw[←hv2];rfl,hb4⟩
end Go.Proofs.Ytmmmknhdigapkaa.poolLays
namespace Go.Proofs.Ytmmmknhdigapkaa.poolLays
open Go.RowKit
set_option linter.unusedSimpArgs false
set_option linter.unusedVariables false
theorem or4{y:Int}(h0:0≤y)(h1:y<8):bits BinOp.or IntKind.u8 y 240=240+y:=by
 have h:((List.range 8).all fun n=>bits BinOp.or IntKind.u8 (n:Int) 240==240+(n:Int))=true:=by kernel_rfl
 have:=(List.all_eq_true.1 h) y.toNat (List.mem_range.2 (by omega))
 rw[show((y.toNat:Nat):Int)=y by omega]at this
 exact eq_of_beq this
set_option maxRecDepth 100000 in
set_option maxHeartbeats 4000000 in
theorem e3l{x:Int}{s:ByteArray}{w:World}(h0:0≤x)(h1:x<18446744073709551616)(hk:NumK x 4)(hs:s.size≤1099511627776):
  Calls Try.prog 35 #[.string s,.int .u64 x] w fun e w'=>e= .returned (.string (s++strOfNums [240+x/256/256/256/256,x/256/256/256%256,x/256/256%256,x/256%256,x%256]))∧Below w.heap.size w w':=by
 go_enter Try.func35,Try.ntmps35
 go_wp2_with (go_at_call 52;refine(a8D h0 h1 (by go_simp)).mono ?_;rintro e w' ⟨n,rfl,rfl,hn⟩;obtain rfl:=NumK.uniq hk hn)
 refine wp_loop_rounds 5 ?_
 rw[rounds_succ]
 go_wp2
 rw[rounds_succ]
 go_wp2
 rw[rounds_succ]
 go_wp2
 rw[rounds_succ]
 go_wp2
 rw[rounds_succ]
 go_wp2
 go_region
 rw[show(if IntKind.u8.signed=true then -1 else IntKind.u8.max)=255 from rfl,show bits BinOp.xor IntKind.u8 255 15=240 from by kernel_rfl]
 have hw: ∃W R v n0 n1 n2 n3 n4,W=(((w.alloc (Obj.cells #[Value.int IntKind.u64 v] 71)).alloc
      (Obj.cells #[Value.int IntKind.u8 n0,Value.int IntKind.u8 n1,Value.int IntKind.u8 n2,Value.int IntKind.u8 n3,Value.int IntKind.u8 n4,Value.int IntKind.u8 0,Value.int IntKind.u8 0,Value.int IntKind.u8 0,Value.int IntKind.u8 0] 95)).drew)∧R=w.heap.size+1∧v=x/256/256/256/256∧n0=bits BinOp.or IntKind.u8 (x/256/256/256/256%256) 240∧n1=x/256/256/256%256∧n2=x/256/256%256∧n3=x/256%256∧n4=x%256:=⟨_,_,_,_,_,_,_,_,rfl,rfl,rfl,rfl,rfl,rfl,rfl,rfl⟩
 obtain⟨W,R,v,n0,n1,n2,n3,n4,eW,eR,ev,e0,e1,e2,e3,e4⟩:=hw
 have hb6:Below w.heap.size w W:=by
  subst eW
  exact((((Below.refl _ w).alloc (Nat.le_refl _) _).alloc (by simp) _)).drew
 have hR:W.heap[R]? =some (.cells #[Value.int IntKind.u8 n0,Value.int IntKind.u8 n1,Value.int IntKind.u8 n2,Value.int IntKind.u8 n3,Value.int IntKind.u8 n4,Value.int IntKind.u8 0,Value.int IntKind.u8 0,Value.int IntKind.u8 0,Value.int IntKind.u8 0] 95 (0,0)):=by
  subst eW eR
  exact a5P w _ _
 rw[←e0,←ev,←e1,←e2,←e3,←e4,←eW,←eR]
 have hv:Hid (([n0,n1,n2,n3,n4]:List Int)= [240+x/256/256/256/256,x/256/256/256%256,x/256/256%256,x/256%256,x%256]):=by
  show _=_
  rw[e0,e1,e2,e3,e4,show x/256/256/256/256%256=x/256/256/256/256 by obtain⟨b0,b1,c1,c2,c3,c4,c5,c6,c7,c8⟩:=hk;omega,or4 (by omega) (by obtain⟨b0,b1,c1,c2,c3,c4,c5,c6,c7,c8⟩:=hk;omega)]
 clear e0 e1 e2 e3 e4 eW eR ev
 go_wp2
 rw[a8N (m:=s.size+5) (by omega) (by omega)]
 simp only[Result.andThen_ok,Oper.upon_value]
 apply_assumption
 have hg1:=at_new W (Obj.cells (List.replicate (s.size+5) z8).toArray 5)
 have hR1:=a8t W (Obj.cells (List.replicate (s.size+5) z8).toArray 5) hR
 have hb1:=hb6.alloc hb6.size (Obj.cells (List.replicate (s.size+5) z8).toArray 5)
 have hge:=hb6.size
 have hRg:R≠W.heap.size:=Nat.ne_of_lt (Array.getElem?_eq_some_iff.1 hR).1
 generalize W.alloc (Obj.cells (List.replicate (s.size+5) z8).toArray 5)=W1 at*
 generalize W.heap.size=g at*
 clear hR hb6
 go_wp2
 rw[a5L (a:=s.size) (b:=5) rfl hg1 rfl]
 simp only[Result.andThen_ok,Oper.upon_value]
 apply_assumption
 have hg2:=setRow_heap W1 g _ (Lib.byteCells s.data.toList++List.replicate 5 z8).toArray 5 _ hg1
 have hR2:=(setRow_other W1 g R (Lib.byteCells s.data.toList++List.replicate 5 z8).toArray hRg).trans hR1
 have hb2:=below_setRow hb1 hge (Lib.byteCells s.data.toList++List.replicate 5 z8).toArray
 generalize W1.setRow g (Lib.byteCells s.data.toList++List.replicate 5 z8).toArray=W2 at*
 clear hg1 hR1 hb1
 go_wp2
 have hle:(s.size:Int)≤(s.size:Int)+5:=by omega
 have hsl:=fun W=>a8F W R (n:=5) (by decide) (v:=IntKind.i64.wrap 5) (by kernel_rfl)
 go_still_tail 7,(by kernel_rfl)
 have hg3:W2.drew.heap[g]? =_:=hg2
 have hR3:W2.drew.heap[R]? =_:=hR2
 have hb3:Below w.heap.size w W2.drew:=hb2.drew
 change wpList _ _ _ _ _ W2.drew
 generalize W2.drew=W3 at*
 clear hg2 hR2 hb2 hle hsl
 go_wp2
 rw[a5K (b:=5) (s:=s) (xs:=[n0,n1,n2,n3,n4]) (rest:=[z8,z8,z8,z8]) hg3 hR3 rfl rfl]
 simp only[Result.andThen_ok,Oper.upon_value]
 apply_assumption
 have hg4:=setRow_heap W3 g _ (Lib.byteCells s.data.toList++b8 [n0,n1,n2,n3,n4]).toArray 5 _ hg3
 have hb4:=below_setRow hb3 hge (Lib.byteCells s.data.toList++b8 [n0,n1,n2,n3,n4]).toArray
 generalize W3.setRow g (Lib.byteCells s.data.toList++b8 [n0,n1,n2,n3,n4]).toArray=W4 at*
 clear hg3 hR3 hb3
 have hcv:=a8k (n:=s.size+5) (m:=s.size+5) hg4 rfl
 clear hg4
 go_wp2
 go_ret
 have hv2:([n0,n1,n2,n3,n4]:List Int)= [240+x/256/256/256/256,x/256/256/256%256,x/256/256%256,x/256%256,x%256]:=hv
 exact⟨by rw[←hv2];rfl,hb4⟩
end Go.Proofs.Ytmmmknhdigapkaa.poolLays
namespace Go.Proofs.Ytmmmknhdigapkaa.poolLays
open Go.RowKit
set_option linter.unusedVariables false
theorem or5{y:Int}(h0:0≤y)(h1:y<4):bits BinOp.or IntKind.u8 y 248=248+y:=by
 have h:((List.range 4).all fun n=>bits BinOp.or IntKind.u8 (n:Int) 248==248+(n:Int))=true:=by kernel_rfl
 have:=(List.all_eq_true.1 h) y.toNat (List.mem_range.2 (by omega))
 rw[show((y.toNat:Nat):Int)=y by omega]at this
 exact eq_of_beq this
set_option maxRecDepth 100000 in
set_option maxHeartbeats 4000000 in
theorem e3k{x:Int}{s:ByteArray}{w:World}(h0:0≤x)(h1:x<18446744073709551616)(hk:NumK x 5)(hs:s.size≤1099511627776):
  Calls Try.prog 35 #[.string s,.int .u64 x] w fun e w'=>e= .returned (.string (s++strOfNums [248+x/256/256/256/256/256,x/256/256/256/256%256,x/256/256/256%256,x/256/256%256,x/256%256,x%256]))∧Below w.heap.size w w':=by
 go_enter Try.func35,Try.ntmps35
 go_wp2_with (go_at_call 52;refine(a8D h0 h1 (by go_simp)).mono ?_;rintro e w' ⟨n,rfl,rfl,hn⟩;obtain rfl:=NumK.uniq hk hn)
 refine wp_loop_rounds 6 ?_
 rw[rounds_succ]
 go_wp2
 rw[rounds_succ]
 go_wp2
 rw[rounds_succ]
 go_wp2
 rw[rounds_succ]
 go_wp2
 rw[rounds_succ]
 go_wp2
 rw[rounds_succ]
 go_wp2
 go_region
 rw[show(if IntKind.u8.signed=true then -1 else IntKind.u8.max)=255 from rfl,show bits BinOp.xor IntKind.u8 255 7=248 from by kernel_rfl]
 have hw: ∃W R v n0 n1 n2 n3 n4 n5,W=(((w.alloc (Obj.cells #[Value.int IntKind.u64 v] 71)).alloc
      (Obj.cells #[Value.int IntKind.u8 n0,Value.int IntKind.u8 n1,Value.int IntKind.u8 n2,Value.int IntKind.u8 n3,Value.int IntKind.u8 n4,Value.int IntKind.u8 n5,Value.int IntKind.u8 0,Value.int IntKind.u8 0,Value.int IntKind.u8 0] 95)).drew)∧R=w.heap.size+1∧v=x/256/256/256/256/256∧n0=bits BinOp.or IntKind.u8 (x/256/256/256/256/256%256) 248∧n1=x/256/256/256/256%256∧n2=x/256/256/256%256∧n3=x/256/256%256∧n4=x/256%256∧n5=x%256:=⟨_,_,_,_,_,_,_,_,_,rfl,rfl,rfl,rfl,rfl,rfl,rfl,rfl,rfl⟩
 obtain⟨W,R,v,n0,n1,n2,n3,n4,n5,eW,eR,ev,e0,e1,e2,e3,e4,e5⟩:=hw
 have hb6:Below w.heap.size w W:=by
  subst eW
  exact((((Below.refl _ w).alloc (Nat.le_refl _) _).alloc (by simp) _)).drew
 have hR:W.heap[R]? =some (.cells #[Value.int IntKind.u8 n0,Value.int IntKind.u8 n1,Value.int IntKind.u8 n2,Value.int IntKind.u8 n3,Value.int IntKind.u8 n4,Value.int IntKind.u8 n5,Value.int IntKind.u8 0,Value.int IntKind.u8 0,Value.int IntKind.u8 0] 95 (0,0)):=by
  subst eW eR
  exact a5P w _ _
 rw[←e0,←ev,←e1,←e2,←e3,←e4,←e5,←eW,←eR]
 have hv:Hid (([n0,n1,n2,n3,n4,n5]:List Int)= [248+x/256/256/256/256/256,x/256/256/256/256%256,x/256/256/256%256,x/256/256%256,x/256%256,x%256]):=by
  show _=_
  rw[e0,e1,e2,e3,e4,e5,show x/256/256/256/256/256%256=x/256/256/256/256/256 by obtain⟨b0,b1,c1,c2,c3,c4,c5,c6,c7,c8⟩:=hk;omega,or5 (by omega) (by obtain⟨b0,b1,c1,c2,c3,c4,c5,c6,c7,c8⟩:=hk;omega)]
 clear e0 e1 e2 e3 e4 e5 eW eR ev
 go_wp2
 rw[a8N (m:=s.size+6) (by omega) (by omega)]
 simp only[Result.andThen_ok,Oper.upon_value]
 apply_assumption
 have hg1:=at_new W (Obj.cells (List.replicate (s.size+6) z8).toArray 5)
 have hR1:=a8t W (Obj.cells (List.replicate (s.size+6) z8).toArray 5) hR
 have hb1:=hb6.alloc hb6.size (Obj.cells (List.replicate (s.size+6) z8).toArray 5)
 have hge:=hb6.size
 have hRg:R≠W.heap.size:=Nat.ne_of_lt (Array.getElem?_eq_some_iff.1 hR).1
 generalize W.alloc (Obj.cells (List.replicate (s.size+6) z8).toArray 5)=W1 at*
 generalize W.heap.size=g at*
 clear hR hb6
 go_wp2
 rw[a5L (a:=s.size) (b:=6) rfl hg1 rfl]
 simp only[Result.andThen_ok,Oper.upon_value]
 apply_assumption
 have hg2:=setRow_heap W1 g _ (Lib.byteCells s.data.toList++List.replicate 6 z8).toArray 5 _ hg1
 have hR2:=(setRow_other W1 g R (Lib.byteCells s.data.toList++List.replicate 6 z8).toArray hRg).trans hR1
 have hb2:=below_setRow hb1 hge (Lib.byteCells s.data.toList++List.replicate 6 z8).toArray
 generalize W1.setRow g (Lib.byteCells s.data.toList++List.replicate 6 z8).toArray=W2 at*
 clear hg1 hR1 hb1
 go_wp2
 have hle:(s.size:Int)≤(s.size:Int)+6:=by omega
 have hsl:=fun W=>a8F W R (n:=6) (by decide) (v:=IntKind.i64.wrap 6) (by kernel_rfl)
 go_still_tail 7,(by kernel_rfl)
 have hg3:W2.drew.heap[g]? =_:=hg2
 have hR3:W2.drew.heap[R]? =_:=hR2
 have hb3:Below w.heap.size w W2.drew:=hb2.drew
 change wpList _ _ _ _ _ W2.drew
 generalize W2.drew=W3 at*
 clear hg2 hR2 hb2 hle hsl
 go_wp2
 rw[a5K (b:=6) (s:=s) (xs:=[n0,n1,n2,n3,n4,n5]) (rest:=[z8,z8,z8]) hg3 hR3 rfl rfl]
 simp only[Result.andThen_ok,Oper.upon_value]
 apply_assumption
 have hg4:=setRow_heap W3 g _ (Lib.byteCells s.data.toList++b8 [n0,n1,n2,n3,n4,n5]).toArray 5 _ hg3
 have hb4:=below_setRow hb3 hge (Lib.byteCells s.data.toList++b8 [n0,n1,n2,n3,n4,n5]).toArray
 generalize W3.setRow g (Lib.byteCells s.data.toList++b8 [n0,n1,n2,n3,n4,n5]).toArray=W4 at*
 clear hg3 hR3 hb3
 have hcv:=a8k (n:=s.size+6) (m:=s.size+6) hg4 rfl
 clear hg4
 go_wp2
 go_ret
 have hv2:([n0,n1,n2,n3,n4,n5]:List Int)= [248+x/256/256/256/256/256,x/256/256/256/256%256,x/256/256/256%256,x/256/256%256,x/256%256,x%256]:=hv
 exact⟨by rw[←hv2];rfl,hb4⟩
end Go.Proofs.Ytmmmknhdigapkaa.poolLays
