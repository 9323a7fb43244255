/-
  PutNum, 6 bytes more.
-/
import Derived.Test.YtmmmknhdigapkaaTxM
import Derived.WalkKit
import Derived.RegionTactic
import Derived.ChangeAlike
import Derived.StillTailTactics
import Derived.Test.YtmmmknhdigapkaaTxF
namespace Go.Proofs.Ytmmmknhdigapkaa.poolS
open Go.RowKit
set_option linter.unusedVariables false
theorem or6{y:Int}(h0:0≤y)(h1:y<2):bits BinOp.or IntKind.u8 y 252=252+y:=by
 have h:((List.range 2).all fun n=>bits BinOp.or IntKind.u8 (n:Int) 252==252+(n:Int))=true:=by kernel_rfl
 have:=(List.all_eq_true.1 h) y.toNat (List.mem_range.2 (by omega));rw[show((y.toNat:Nat):Int)=y by omega]at this;exact eq_of_beq this
set_option maxRecDepth 100000 in
set_option maxHeartbeats 4000000 in
theorem e4C{x:Int}{s:ByteArray}{w:World}(h0:0≤x)(h1:x<18446744073709551616)(hk:NumK x 6)(hs:s.size≤1099511627776):
  Calls Try.prog 35 #[.string s,.int .u64 x] w fun e w'=>e= .returned (.string (s++strOfNums [252+x/256/256/256/256/256/256,x/256/256/256/256/256%256,x/256/256/256/256%256,x/256/256/256%256,x/256/256%256,x/256%256,x%256]))∧Below w.heap.size w w':=by
 go_enter Try.func35,Try.ntmps35;go_wp2_with (go_at_call 52;refine(a7z h0 h1 (by go_simp)).mono ?_;rintro e w' ⟨n,rfl,rfl,hn⟩;obtain rfl:=NumK.uniq hk hn);refine wp_loop_rounds 7 ?_;rw[rounds_succ];go_wp2;rw[rounds_succ];go_wp2;rw[rounds_succ];go_wp2;rw[rounds_succ];go_wp2;rw[rounds_succ];go_wp2;rw[rounds_succ];go_wp2;rw[rounds_succ];go_wp2;go_region;rw[show(if IntKind.u8.signed=true then -1 else IntKind.u8.max)=255 from rfl,show bits BinOp.xor IntKind.u8 255 3=252 from by kernel_rfl]
 have hw: ∃W R v n0 n1 n2 n3 n4 n5 n6,W=(((w.alloc (Obj.cells #[Value.int IntKind.u64 v] 71)).alloc
      (Obj.cells #[Value.int IntKind.u8 n0,Value.int IntKind.u8 n1,Value.int IntKind.u8 n2,Value.int IntKind.u8 n3,Value.int IntKind.u8 n4,Value.int IntKind.u8 n5,Value.int IntKind.u8 n6,Value.int IntKind.u8 0,Value.int IntKind.u8 0] 95)).drew)∧R=w.heap.size+1∧v=x/256/256/256/256/256/256∧n0=bits BinOp.or IntKind.u8 (x/256/256/256/256/256/256%256) 252∧n1=x/256/256/256/256/256%256∧n2=x/256/256/256/256%256∧n3=x/256/256/256%256∧n4=x/256/256%256∧n5=x/256%256∧n6=x%256:=⟨_,_,_,_,_,_,_,_,_,_,rfl,rfl,rfl,rfl,rfl,rfl,rfl,rfl,rfl,rfl⟩
 obtain⟨W,R,v,n0,n1,n2,n3,n4,n5,n6,eW,eR,ev,e0,e1,e2,e3,e4,e5,e6⟩:=hw
 have hb6:Below w.heap.size w W:=by subst eW;exact((((Below.refl _ w).alloc (Nat.le_refl _) _).alloc (by simp) _)).drew
 have hR:W.heap[R]? =some (.cells #[Value.int IntKind.u8 n0,Value.int IntKind.u8 n1,Value.int IntKind.u8 n2,Value.int IntKind.u8 n3,Value.int IntKind.u8 n4,Value.int IntKind.u8 n5,Value.int IntKind.u8 n6,Value.int IntKind.u8 0,Value.int IntKind.u8 0] 95 (0,0)):=by subst eW eR;exact a4r w _ _
 rw[←e0,←ev,←e1,←e2,←e3,←e4,←e5,←e6,←eW,←eR]
 have hv:Hid (([n0,n1,n2,n3,n4,n5,n6]:List Int)= [252+x/256/256/256/256/256/256,x/256/256/256/256/256%256,x/256/256/256/256%256,x/256/256/256%256,x/256/256%256,x/256%256,x%256]):=by show _=_;rw[e0,e1,e2,e3,e4,e5,e6,show x/256/256/256/256/256/256%256=x/256/256/256/256/256/256 by obtain⟨b0,b1,c1,c2,c3,c4,c5,c6,c7,c8⟩:=hk;omega,or6 (by omega) (by obtain⟨b0,b1,c1,c2,c3,c4,c5,c6,c7,c8⟩:=hk;omega)]
 clear e0 e1 e2 e3 e4 e5 e6 eW eR ev;go_wp2;rw[a8J (m:=s.size+7) (by omega) (by omega)];simp only[Result.andThen_ok,Oper.upon_value];apply_assumption;have hg1:=at_new W (Obj.cells (List.replicate (s.size+7) z8).toArray 5);have hR1:=a8r W (Obj.cells (List.replicate (s.size+7) z8).toArray 5) hR;have hb1:=hb6.alloc hb6.size (Obj.cells (List.replicate (s.size+7) z8).toArray 5);have hge:=hb6.size;have hRg:R≠W.heap.size:=Nat.ne_of_lt (Array.getElem?_eq_some_iff.1 hR).1;generalize W.alloc (Obj.cells (List.replicate (s.size+7) z8).toArray 5)=W1 at*;generalize W.heap.size=g at*;clear hR hb6;go_wp2;rw[a4p (a:=s.size) (b:=7) rfl hg1 rfl];simp only[Result.andThen_ok,Oper.upon_value];apply_assumption;have hg2:=setRow_heap W1 g _ (Lib.byteCells s.data.toList++List.replicate 7 z8).toArray 5 _ hg1;have hR2:=(setRow_other W1 g R (Lib.byteCells s.data.toList++List.replicate 7 z8).toArray hRg).trans hR1;have hb2:=below_setRow hb1 hge (Lib.byteCells s.data.toList++List.replicate 7 z8).toArray;generalize W1.setRow g (Lib.byteCells s.data.toList++List.replicate 7 z8).toArray=W2 at*;clear hg1 hR1 hb1;go_wp2;have hle:(s.size:Int)≤(s.size:Int)+7:=by omega
 have hsl:=fun W=>a8A W R (n:=7) (by decide) (v:=IntKind.i64.wrap 7) (by kernel_rfl);go_still_tail 7,(by kernel_rfl);have hg3:W2.drew.heap[g]? =_:=hg2;have hR3:W2.drew.heap[R]? =_:=hR2;have hb3:Below w.heap.size w W2.drew:=hb2.drew;change wpList _ _ _ _ _ W2.drew;generalize W2.drew=W3 at*;clear hg2 hR2 hb2 hle hsl;go_wp2;rw[a4o (b:=7) (s:=s) (xs:=[n0,n1,n2,n3,n4,n5,n6]) (rest:=[z8,z8]) hg3 hR3 rfl rfl];simp only[Result.andThen_ok,Oper.upon_value];apply_assumption;have hg4:=setRow_heap W3 g _ (Lib.byteCells s.data.toList++b8 [n0,n1,n2,n3,n4,n5,n6]).toArray 5 _ hg3;have hb4:=below_setRow hb3 hge (Lib.byteCells s.data.toList++b8 [n0,n1,n2,n3,n4,n5,n6]).toArray;generalize W3.setRow g (Lib.byteCells s.data.toList++b8 [n0,n1,n2,n3,n4,n5,n6]).toArray=W4 at*;clear hg3 hR3 hb3;have hcv:=a8g (n:=s.size+7) (m:=s.size+7) hg4 rfl;clear hg4;go_wp2;go_ret;have hv2:([n0,n1,n2,n3,n4,n5,n6]:List Int)= [252+x/256/256/256/256/256/256,x/256/256/256/256/256%256,x/256/256/256/256%256,x/256/256/256%256,x/256/256%256,x/256%256,x%256]:=hv;exact⟨by rw[←hv2];rfl,hb4⟩
theorem or7{y:Int}(h0:0≤y)(h1:y<1):bits BinOp.or IntKind.u8 y 254=254+y:=by
 have h:((List.range 1).all fun n=>bits BinOp.or IntKind.u8 (n:Int) 254==254+(n:Int))=true:=by kernel_rfl
 have:=(List.all_eq_true.1 h) y.toNat (List.mem_range.2 (by omega));rw[show((y.toNat:Nat):Int)=y by omega]at this;exact eq_of_beq this
set_option maxRecDepth 100000 in
set_option maxHeartbeats 4000000 in
theorem e4B{x:Int}{s:ByteArray}{w:World}(h0:0≤x)(h1:x<18446744073709551616)(hk:NumK x 7)(hs:s.size≤1099511627776):
  Calls Try.prog 35 #[.string s,.int .u64 x] w fun e w'=>e= .returned (.string (s++strOfNums [254+x/256/256/256/256/256/256/256,x/256/256/256/256/256/256%256,x/256/256/256/256/256%256,x/256/256/256/256%256,x/256/256/256%256,x/256/256%256,x/256%256,x%256]))∧Below w.heap.size w w':=by
 go_enter Try.func35,Try.ntmps35;go_wp2_with (go_at_call 52;refine(a7z h0 h1 (by go_simp)).mono ?_;rintro e w' ⟨n,rfl,rfl,hn⟩;obtain rfl:=NumK.uniq hk hn);refine wp_loop_rounds 8 ?_;rw[rounds_succ];go_wp2;rw[rounds_succ];go_wp2;rw[rounds_succ];go_wp2;rw[rounds_succ];go_wp2;rw[rounds_succ];go_wp2;rw[rounds_succ];go_wp2;rw[rounds_succ];go_wp2;rw[rounds_succ];go_wp2;go_region;rw[show(if IntKind.u8.signed=true then -1 else IntKind.u8.max)=255 from rfl,show bits BinOp.xor IntKind.u8 255 1=254 from by kernel_rfl]
 have hw: ∃W R v n0 n1 n2 n3 n4 n5 n6 n7,W=(((w.alloc (Obj.cells #[Value.int IntKind.u64 v] 71)).alloc
      (Obj.cells #[Value.int IntKind.u8 n0,Value.int IntKind.u8 n1,Value.int IntKind.u8 n2,Value.int IntKind.u8 n3,Value.int IntKind.u8 n4,Value.int IntKind.u8 n5,Value.int IntKind.u8 n6,Value.int IntKind.u8 n7,Value.int IntKind.u8 0] 95)).drew)∧R=w.heap.size+1∧v=x/256/256/256/256/256/256/256∧n0=bits BinOp.or IntKind.u8 (x/256/256/256/256/256/256/256) 254∧n1=x/256/256/256/256/256/256%256∧n2=x/256/256/256/256/256%256∧n3=x/256/256/256/256%256∧n4=x/256/256/256%256∧n5=x/256/256%256∧n6=x/256%256∧n7=x%256:=⟨_,_,_,_,_,_,_,_,_,_,_,rfl,rfl,rfl,rfl,rfl,rfl,rfl,rfl,rfl,rfl,rfl⟩
 obtain⟨W,R,v,n0,n1,n2,n3,n4,n5,n6,n7,eW,eR,ev,e0,e1,e2,e3,e4,e5,e6,e7⟩:=hw
 have hb6:Below w.heap.size w W:=by subst eW;exact((((Below.refl _ w).alloc (Nat.le_refl _) _).alloc (by simp) _)).drew
 have hR:W.heap[R]? =some (.cells #[Value.int IntKind.u8 n0,Value.int IntKind.u8 n1,Value.int IntKind.u8 n2,Value.int IntKind.u8 n3,Value.int IntKind.u8 n4,Value.int IntKind.u8 n5,Value.int IntKind.u8 n6,Value.int IntKind.u8 n7,Value.int IntKind.u8 0] 95 (0,0)):=by subst eW eR;exact a4r w _ _
 rw[←e0,←ev,←e1,←e2,←e3,←e4,←e5,←e6,←e7,←eW,←eR]
 have hv:Hid (([n0,n1,n2,n3,n4,n5,n6,n7]:List Int)= [254+x/256/256/256/256/256/256/256,x/256/256/256/256/256/256%256,x/256/256/256/256/256%256,x/256/256/256/256%256,x/256/256/256%256,x/256/256%256,x/256%256,x%256]):=by show _=_;rw[e0,e1,e2,e3,e4,e5,e6,e7,or7 (by omega) (by obtain⟨b0,b1,c1,c2,c3,c4,c5,c6,c7,c8⟩:=hk;omega)]
 clear e0 e1 e2 e3 e4 e5 e6 e7 eW eR ev;go_wp2;rw[a8J (m:=s.size+8) (by omega) (by omega)];simp only[Result.andThen_ok,Oper.upon_value];apply_assumption;have hg1:=at_new W (Obj.cells (List.replicate (s.size+8) z8).toArray 5);have hR1:=a8r W (Obj.cells (List.replicate (s.size+8) z8).toArray 5) hR;have hb1:=hb6.alloc hb6.size (Obj.cells (List.replicate (s.size+8) z8).toArray 5);have hge:=hb6.size;have hRg:R≠W.heap.size:=Nat.ne_of_lt (Array.getElem?_eq_some_iff.1 hR).1;generalize W.alloc (Obj.cells (List.replicate (s.size+8) z8).toArray 5)=W1 at*;generalize W.heap.size=g at*;clear hR hb6;go_wp2;rw[a4p (a:=s.size) (b:=8) rfl hg1 rfl];simp only[Result.andThen_ok,Oper.upon_value];apply_assumption;have hg2:=setRow_heap W1 g _ (Lib.byteCells s.data.toList++List.replicate 8 z8).toArray 5 _ hg1;have hR2:=(setRow_other W1 g R (Lib.byteCells s.data.toList++List.replicate 8 z8).toArray hRg).trans hR1;have hb2:=below_setRow hb1 hge (Lib.byteCells s.data.toList++List.replicate 8 z8).toArray;generalize W1.setRow g (Lib.byteCells s.data.toList++List.replicate 8 z8).toArray=W2 at*;clear hg1 hR1 hb1;go_wp2;have hle:(s.size:Int)≤(s.size:Int)+8:=by omega
 have hsl:=fun W=>a8A W R (n:=8) (by decide) (v:=IntKind.i64.wrap 8) (by kernel_rfl);go_still_tail 7,(by kernel_rfl);have hg3:W2.drew.heap[g]? =_:=hg2;have hR3:W2.drew.heap[R]? =_:=hR2;have hb3:Below w.heap.size w W2.drew:=hb2.drew;change wpList _ _ _ _ _ W2.drew;generalize W2.drew=W3 at*;clear hg2 hR2 hb2 hle hsl;go_wp2;rw[a4o (b:=8) (s:=s) (xs:=[n0,n1,n2,n3,n4,n5,n6,n7]) (rest:=[z8]) hg3 hR3 rfl rfl];simp only[Result.andThen_ok,Oper.upon_value];apply_assumption;have hg4:=setRow_heap W3 g _ (Lib.byteCells s.data.toList++b8 [n0,n1,n2,n3,n4,n5,n6,n7]).toArray 5 _ hg3;have hb4:=below_setRow hb3 hge (Lib.byteCells s.data.toList++b8 [n0,n1,n2,n3,n4,n5,n6,n7]).toArray;generalize W3.setRow g (Lib.byteCells s.data.toList++b8 [n0,n1,n2,n3,n4,n5,n6,n7]).toArray=W4 at*;clear hg3 hR3 hb3;have hcv:=a8g (n:=s.size+8) (m:=s.size+8) hg4 rfl;clear hg4;go_wp2;go_ret;have hv2:([n0,n1,n2,n3,n4,n5,n6,n7]:List Int)= [254+x/256/256/256/256/256/256/256,x/256/256/256/256/256/256%256,x/256/256/256/256/256%256,x/256/256/256/256%256,x/256/256/256%256,x/256/256%256,x/256%256,x%256]:=hv;exact⟨by rw[←hv2];rfl,hb4⟩
end Go.Proofs.Ytmmmknhdigapkaa.poolS
namespace Go.Proofs.Ytmmmknhdigapkaa.poolS
open Go.RowKit
set_option linter.unusedSimpArgs false
set_option linter.unusedVariables false
theorem or8{y:Int}(h0:0≤y)(h1:y<1):bits BinOp.or IntKind.u8 y 255=255+y:=by
 have h:((List.range 1).all fun n=>bits BinOp.or IntKind.u8 (n:Int) 255==255+(n:Int))=true:=by kernel_rfl
 have:=(List.all_eq_true.1 h) y.toNat (List.mem_range.2 (by omega));rw[show((y.toNat:Nat):Int)=y by omega]at this;exact eq_of_beq this
set_option maxRecDepth 100000 in
set_option maxHeartbeats 4000000 in
theorem e4A{x:Int}{s:ByteArray}{w:World}(h0:0≤x)(h1:x<18446744073709551616)(hk:NumK x 8)(hs:s.size≤1099511627776):
  Calls Try.prog 35 #[.string s,.int .u64 x] w fun e w'=>e= .returned (.string (s++strOfNums [255+x/256/256/256/256/256/256/256/256,x/256/256/256/256/256/256/256,x/256/256/256/256/256/256%256,x/256/256/256/256/256%256,x/256/256/256/256%256,x/256/256/256%256,x/256/256%256,x/256%256,x%256]))∧Below w.heap.size w w':=by
 go_enter Try.func35,Try.ntmps35;go_wp2_with (go_at_call 52;refine(a7z h0 h1 (by go_simp)).mono ?_;rintro e w' ⟨n,rfl,rfl,hn⟩;obtain rfl:=NumK.uniq hk hn);refine wp_loop_rounds 9 ?_;rw[rounds_succ];go_wp2;rw[rounds_succ];go_wp2;rw[rounds_succ];go_wp2;rw[rounds_succ];go_wp2;rw[rounds_succ];go_wp2;rw[rounds_succ];go_wp2;rw[rounds_succ];go_wp2;rw[rounds_succ];go_wp2;rw[rounds_succ];go_wp2;go_region;rw[show(if IntKind.u8.signed=true then -1 else IntKind.u8.max)=255 from rfl,show bits BinOp.xor IntKind.u8 255 0=255 from by kernel_rfl]
 have hw: ∃W R v n0 n1 n2 n3 n4 n5 n6 n7 n8,W=(((w.alloc (Obj.cells #[Value.int IntKind.u64 v] 71)).alloc
      (Obj.cells #[Value.int IntKind.u8 n0,Value.int IntKind.u8 n1,Value.int IntKind.u8 n2,Value.int IntKind.u8 n3,Value.int IntKind.u8 n4,Value.int IntKind.u8 n5,Value.int IntKind.u8 n6,Value.int IntKind.u8 n7,Value.int IntKind.u8 n8] 95)).drew)∧R=w.heap.size+1∧v=x/256/256/256/256/256/256/256/256∧n0=bits BinOp.or IntKind.u8 (x/256/256/256/256/256/256/256/256) 255∧n1=x/256/256/256/256/256/256/256∧n2=x/256/256/256/256/256/256%256∧n3=x/256/256/256/256/256%256∧n4=x/256/256/256/256%256∧n5=x/256/256/256%256∧n6=x/256/256%256∧n7=x/256%256∧n8=x%256:=⟨_,_,_,_,_,_,_,_,_,_,_,_,rfl,rfl,rfl,rfl,rfl,rfl,rfl,rfl,rfl,rfl,rfl,rfl⟩
 obtain⟨W,R,v,n0,n1,n2,n3,n4,n5,n6,n7,n8,eW,eR,ev,e0,e1,e2,e3,e4,e5,e6,e7,e8⟩:=hw
 have hb6:Below w.heap.size w W:=by subst eW;exact((((Below.refl _ w).alloc (Nat.le_refl _) _).alloc (by simp) _)).drew
 have hR:W.heap[R]? =some (.cells #[Value.int IntKind.u8 n0,Value.int IntKind.u8 n1,Value.int IntKind.u8 n2,Value.int IntKind.u8 n3,Value.int IntKind.u8 n4,Value.int IntKind.u8 n5,Value.int IntKind.u8 n6,Value.int IntKind.u8 n7,Value.int IntKind.u8 n8] 95 (0,0)):=by subst eW eR;exact a4r w _ _
 rw[←e0,←ev,←e1,←e2,←e3,←e4,←e5,←e6,←e7,←e8,←eW,←eR]
 have hv:Hid (([n0,n1,n2,n3,n4,n5,n6,n7,n8]:List Int)= [255+x/256/256/256/256/256/256/256/256,x/256/256/256/256/256/256/256,x/256/256/256/256/256/256%256,x/256/256/256/256/256%256,x/256/256/256/256%256,x/256/256/256%256,x/256/256%256,x/256%256,x%256]):=by show _=_;rw[e0,e1,e2,e3,e4,e5,e6,e7,e8,or8 (by omega) (by obtain⟨b0,b1,c1,c2,c3,c4,c5,c6,c7,c8⟩:=hk;omega)]
 clear e0 e1 e2 e3 e4 e5 e6 e7 e8 eW eR ev;go_wp2;rw[a8J (m:=s.size+9) (by omega) (by omega)];simp only[Result.andThen_ok,Oper.upon_value];apply_assumption;have hg1:=at_new W (Obj.cells (List.replicate (s.size+9) z8).toArray 5);have hR1:=a8r W (Obj.cells (List.replicate (s.size+9) z8).toArray 5) hR;have hb1:=hb6.alloc hb6.size (Obj.cells (List.replicate (s.size+9) z8).toArray 5);have hge:=hb6.size;have hRg:R≠W.heap.size:=Nat.ne_of_lt (Array.getElem?_eq_some_iff.1 hR).1;generalize W.alloc (Obj.cells (List.replicate (s.size+9) z8).toArray 5)=W1 at*;generalize W.heap.size=g at*;clear hR hb6;go_wp2;rw[a4p (a:=s.size) (b:=9) rfl hg1 rfl];simp only[Result.andThen_ok,Oper.upon_value];apply_assumption;have hg2:=setRow_heap W1 g _ (Lib.byteCells s.data.toList++List.replicate 9 z8).toArray 5 _ hg1;have hR2:=(setRow_other W1 g R (Lib.byteCells s.data.toList++List.replicate 9 z8).toArray hRg).trans hR1;have hb2:=below_setRow hb1 hge (Lib.byteCells s.data.toList++List.replicate 9 z8).toArray;generalize W1.setRow g (Lib.byteCells s.data.toList++List.replicate 9 z8).toArray=W2 at*;clear hg1 hR1 hb1;go_wp2;have hle:(s.size:Int)≤(s.size:Int)+9:=by omega
 have hsl:=fun W=>a8A W R (n:=9) (by decide) (v:=IntKind.i64.wrap 9) (by kernel_rfl);go_still_tail 7,(by kernel_rfl);have hg3:W2.drew.heap[g]? =_:=hg2;have hR3:W2.drew.heap[R]? =_:=hR2;have hb3:Below w.heap.size w W2.drew:=hb2.drew;change wpList _ _ _ _ _ W2.drew;generalize W2.drew=W3 at*;clear hg2 hR2 hb2 hle hsl;go_wp2;rw[a4o (b:=9) (s:=s) (xs:=[n0,n1,n2,n3,n4,n5,n6,n7,n8]) (rest:=[]) hg3 hR3 rfl rfl];simp only[Result.andThen_ok,Oper.upon_value];apply_assumption;have hg4:=setRow_heap W3 g _ (Lib.byteCells s.data.toList++b8 [n0,n1,n2,n3,n4,n5,n6,n7,n8]).toArray 5 _ hg3;have hb4:=below_setRow hb3 hge (Lib.byteCells s.data.toList++b8 [n0,n1,n2,n3,n4,n5,n6,n7,n8]).toArray;generalize W3.setRow g (Lib.byteCells s.data.toList++b8 [n0,n1,n2,n3,n4,n5,n6,n7,n8]).toArray=W4 at*;clear hg3 hR3 hb3;have hcv:=a8g (n:=s.size+9) (m:=s.size+9) hg4 rfl;clear hg4;go_wp2;go_ret;have hv2:([n0,n1,n2,n3,n4,n5,n6,n7,n8]:List Int)= [255+x/256/256/256/256/256/256/256/256,x/256/256/256/256/256/256/256,x/256/256/256/256/256/256%256,x/256/256/256/256/256%256,x/256/256/256/256%256,x/256/256/256%256,x/256/256%256,x/256%256,x%256]:=hv;exact⟨by rw[←hv2];rfl,hb4⟩
end Go.Proofs.Ytmmmknhdigapkaa.poolS
namespace Go.Proofs.Ytmmmknhdigapkaa.poolS
open Go.RowKit
set_option linter.unusedVariables false
end Go.Proofs.Ytmmmknhdigapkaa.poolS
namespace Go.Proofs.Ytmmmknhdigapkaa.poolS
open Go.RowKit
set_option linter.unusedSimpArgs false
set_option linter.unusedVariables false
def a0U(x:Int):List Int:=
 if x<128 then [0+x]else
 if x<16384 then [128+x/256,x%256]else
 if x<2097152 then [192+x/256/256,x/256%256,x%256]else
 if x<268435456 then [224+x/256/256/256,x/256/256%256,x/256%256,x%256]else
 if x<34359738368 then [240+x/256/256/256/256,x/256/256/256%256,x/256/256%256,x/256%256,x%256]else
 if x<4398046511104 then [248+x/256/256/256/256/256,x/256/256/256/256%256,x/256/256/256%256,x/256/256%256,x/256%256,x%256]else
 if x<562949953421312 then [252+x/256/256/256/256/256/256,x/256/256/256/256/256%256,x/256/256/256/256%256,x/256/256/256%256,x/256/256%256,x/256%256,x%256]else
 if x<72057594037927936 then [254+x/256/256/256/256/256/256/256,x/256/256/256/256/256/256%256,x/256/256/256/256/256%256,x/256/256/256/256%256,x/256/256/256%256,x/256/256%256,x/256%256,x%256]else
 [255+x/256/256/256/256/256/256/256/256,x/256/256/256/256/256/256/256,x/256/256/256/256/256/256%256,x/256/256/256/256/256%256,x/256/256/256/256%256,x/256/256/256%256,x/256/256%256,x/256%256,x%256]
def c0O(x:Int):ByteArray:=strOfNums (a0U x)
theorem le1{a:Int}{l:List Int}:1≤(a::l).length:=by simp
theorem le9{l:List Int}(h:Nat.ble l.length 9=true):l.length≤9:=Nat.le_of_ble_eq_true h
theorem b7V(x:Int):1≤(c0O x).size∧(c0O x).size≤9:=by
 unfold c0O;rw[strOfNums_size];unfold a0U;split
 ·exact⟨le1,le9 (by rfl)⟩
 split
 ·exact⟨le1,le9 (by rfl)⟩
 split
 ·exact⟨le1,le9 (by rfl)⟩
 split
 ·exact⟨le1,le9 (by rfl)⟩
 split
 ·exact⟨le1,le9 (by rfl)⟩
 split
 ·exact⟨le1,le9 (by rfl)⟩
 split
 ·exact⟨le1,le9 (by rfl)⟩
 split
 ·exact⟨le1,le9 (by rfl)⟩
 exact⟨le1,le9 (by rfl)⟩
theorem a9u{x:Int}{s:ByteArray}{w:World}(h0:0≤x)(h1:x<18446744073709551616)(hs:s.size≤1099511627776):
  Calls Try.prog 35 #[.string s,.int .u64 x] w fun e w'=>e= .returned (.string (s++c0O x))∧Below w.heap.size w w':=by
 unfold c0O a0U;split
 ·exact e4H h0 h1 (by constructor<;>omega) hs
 split
 ·exact put1 h0 h1 (by constructor<;>omega) hs
 split
 ·exact e4G h0 h1 (by constructor<;>omega) hs
 split
 ·exact e4F h0 h1 (by constructor<;>omega) hs
 split
 ·exact e4E h0 h1 (by constructor<;>omega) hs
 split
 ·exact e4D h0 h1 (by constructor<;>omega) hs
 split
 ·exact e4C h0 h1 (by constructor<;>omega) hs
 split
 ·exact e4B h0 h1 (by constructor<;>omega) hs
 exact e4A h0 h1 (by constructor<;>omega) hs
def zig(n:Int):Int:=if n<0 then -2*n-1 else 2*n
theorem d5f{n:Int}(h0: -9223372036854775808≤n)(h1:n≤9223372036854775807):0≤zig n∧zig n<18446744073709551616:=by unfold zig;split<;>omega
theorem a4a{y:Int}(h0:0≤y)(h1:y<18446744073709551616):(BitVec.ofInt 64 y).toNat=y.toNat:=by rw[BitVec.toNat_ofInt];omega
theorem bx0{y:Int}(h0:0≤y)(h1:y<18446744073709551616):bits BinOp.xor IntKind.u64 y 0=y:=by have h:=a4a h0 h1;show IntKind.u64.wrap ((BitVec.ofInt 64 y^^^BitVec.ofInt 64 0).toNat:Int)=y;rw[show(BitVec.ofInt 64 0)=0#64 from rfl,BitVec.xor_zero,h,IntKind.wrap_u64];omega
theorem bxF{y:Int}(h0:0≤y)(h1:y<18446744073709551616):bits BinOp.xor IntKind.u64 y 18446744073709551615=18446744073709551615-y:=by have h:=a4a h0 h1;show IntKind.u64.wrap ((BitVec.ofInt 64 y^^^BitVec.ofInt 64 18446744073709551615).toNat:Int)=_;rw[show(BitVec.ofInt 64 18446744073709551615)=BitVec.allOnes 64 from by decide,BitVec.xor_allOnes,BitVec.toNat_not,h,IntKind.wrap_u64];omega
theorem c8g{n:Int}(h0: -9223372036854775808≤n)(h1:n≤9223372036854775807):
  bits BinOp.xor IntKind.u64 (IntKind.u64.wrap (IntKind.u64.wrap n*2)) (IntKind.u64.wrap (n/9223372036854775808))=zig n:=by
 unfold zig;split
 ·rw[show IntKind.u64.wrap (n/9223372036854775808)=18446744073709551615 by rw[IntKind.wrap_u64];omega,bxF (by rw[IntKind.wrap_u64];omega) (by rw[IntKind.wrap_u64];omega),IntKind.wrap_u64,IntKind.wrap_u64];omega
 ·rw[show IntKind.u64.wrap (n/9223372036854775808)=0 by rw[IntKind.wrap_u64];omega,bx0 (by rw[IntKind.wrap_u64];omega) (by rw[IntKind.wrap_u64];omega),IntKind.wrap_u64,IntKind.wrap_u64];omega
set_option maxRecDepth 100000 in
theorem b6r{n:Int}{s:ByteArray}{w:World}(h0: -9223372036854775808≤n)(h1:n≤9223372036854775807)(hs:s.size≤1099511627776):
  Calls Try.prog 54 #[.string s,.int .i64 n] w fun e w'=>e= .returned (.string (s++c0O (zig n)))∧Below w.heap.size w w':=by
 have hz:=d5f h0 h1;go_enter Try.func54,Try.ntmps54;go_wp2_with (go_at_call 35;rw[c8g h0 h1];refine(a9u hz.1 hz.2 hs).mono ?_;rintro e w' ⟨rfl,hb⟩);go_ret;exact⟨rfl,by assumption⟩
end Go.Proofs.Ytmmmknhdigapkaa.poolS
