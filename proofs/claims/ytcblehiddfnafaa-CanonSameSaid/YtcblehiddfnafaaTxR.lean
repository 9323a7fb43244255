/-
  Chapter 28: slices.Grow of a nil slice, walked.
-/
import Derived.Test.YtcblehiddfnafaaTxQ
import Derived.Lib.AppendZerosOnto
import Derived.Test.YtcblehiddfnafaaTxH
namespace Go.Proofs.Ytcblehiddfnafaa.canonSame
open Go.Shelf Go.RowKit Go.Lib Go.Sort
set_option maxHeartbeats 4000000 in
set_option maxRecDepth 100000 in
theorem b1s{P:Program}{k29 k31 k41 k43 k45 k66 k97:Nat}{y29 y31 y41 y43 y45 y66 y97:List Value}(L:LayS P k29 k31 k41 k43 k45 k66 k97 y29 y31 y41 y43 y45 y66 y97)(f58:P.funcs[58]? =some Try.f58)(i43:Inf P 43 7 1000)
  (n:Nat) (w:World) (hn:n*1000≤140737488355328):
  Calls P 58 #[.slice none 0 0,.int .i64 n] w fun e w'=> ∃v,e= .returned v∧w'.ownsRow w.heap.size 43 7 v 0 []∧Below w.heap.size w w':=by
 have mixed:=L.mixed;have t4:=L.t4;have a4:=L.a4;have z4:=L.z4;have t26:=L.t26;have a26:=L.a26;have z26:=L.z26;have v26:=L.v26;have qu26:=run_underlying L.t26
 have t3:=L.t3;have a3:=L.a3;have z3:=L.z3;have v3:=L.v3
 obtain⟨i,z,i1,i2,i3,i4,i5⟩:=i43
 have h1: ¬((n:Int)<0):=by omega
 have h2:wrap64 ((0:Int)-(0:Int))=0:=by unfold wrap64;omega
 have h3:wrap64 ((n:Int)-0)=(n:Int):=by unfold wrap64;omega
 have z43:=L.z43
 cases n with
 |zero=>
  have B0:Aside (Below w.heap.size w w):=.refl _ _
  clear hn
  go_enter f58,Try.ntmps58
  go_wp2
  go_returns
  exact⟨_,rfl,World.ownsRow_nil _ _ _ _,B0.out⟩
 |succ m=>
  obtain⟨n,hnm⟩: ∃n,n=m+1:=⟨_,rfl⟩
  rw[←hnm]at hn h1 h3 ⊢
  have h4:(0:Int)<(n:Int):=by omega
  have hrz: ∀ty,(Builtin.append_ #[26,3] ty #[.slice none 0 0,.int .i64 (n:Int)]).run P w=
    .ok (.slice (some ⟨w.heap.size,0,none⟩) n (grownCap w n 0 43)) (w.drew.alloc (.cells (#[]++Builtin.zeroCells z.cells n++Builtin.zeroCells z.cells (grownCap w n 0 43-n)) 43)):=fun ty=>by
   have hb:n*i.bytes≤140737488355328:=Nat.le_trans (Nat.mul_le_mul_left _ i5) hn
   have h:=Lib.run_append_grow_zeros w 26 3 ty 43 i z .i64 .i64 L.t26 L.t3 i1 i2 none 0 0 [] (run_firstCells_none w.drew i.size 0 0 0) n (by omega) (by omega) (by omega) (by omega) (by omega)
    (by rw[Nat.zero_add];exact growslice_fits (by omega) hb)
   rw[Nat.zero_add]at h
   exact h
  have hGn:n≤grownCap w n 0 43:=grownCap_ge w _ _ _
  have hGm:=grownCap_le_maxLen w n 0 43 (by unfold maxLen;omega)
  obtain⟨G,hG⟩: ∃G,G=grownCap w n 0 43:=⟨_,rfl⟩
  rw[←hG]at hrz hGn hGm
  have hG63:G≤9223372036854775807:=by unfold maxLen at hGm;omega
  have hsz:(#[]++Builtin.zeroCells z.cells n++Builtin.zeroCells z.cells (G-n)).size=G*7:=by
   rw[Array.size_append,Array.size_append,size_zeroCells,size_zeroCells,i3,Array.size_empty,Nat.zero_add,←Nat.add_mul];congr 1;omega
  have OW:Aside ((w.drew.alloc (.cells (#[]++Builtin.zeroCells z.cells n++Builtin.zeroCells z.cells (G-n)) 43)).ownsRow w.heap.size 43 7 (.slice (some ⟨w.heap.size,0,none⟩) 0 G) 0 []):=
   ⟨rfl,.inr ⟨w.heap.size,G,_,rfl,Nat.le_refl _,heap_alloc_new w.drew _,Nat.zero_le _,hGm,hsz,rfl⟩⟩
  have BB:Aside (Below w.heap.size w (w.drew.alloc (.cells (#[]++Builtin.zeroCells z.cells n++Builtin.zeroCells z.cells (G-n)) 43))):=a0N (.refl _ _) (Nat.le_refl _) (((Gr.refl w).drew).alloc _)
  generalize w.drew.alloc (.cells (#[]++Builtin.zeroCells z.cells n++Builtin.zeroCells z.cells (G-n)) 43)=w' at hrz OW BB
  clear hG hsz hGm hn hnm i1 i2 i3 i4 i5
  go_enter f58,Try.ntmps58
  go_wp2_with (at_builtin;refine a0E rfl _ _ #[26,3] rfl (.slice none 0 0) (.int .i64 n) rfl rfl _ w' (hrz _) ?_)
  go_returns
  exact⟨_,rfl,OW.out,BB.out⟩
end Go.Proofs.Ytcblehiddfnafaa.canonSame
namespace Go.Proofs.Ytcblehiddfnafaa.canonSame
open Go.Shelf Go.RowKit Go.Lib Go.Sort
def b7h(A B:Loc)(xs ys:List Itm):Nat→List Value
 |0=>[]
 |1=>a2D (fI A xs) xs.length
 |_=>a2D (fI A xs) xs.length++a2D (fI B ys) ys.length
def b1J(xs ys:List Itm):Nat→Nat
 |0=>0
 |1=>xs.length
 |_=>xs.length+ys.length
theorem a9h(xs ys:List Itm):b1J xs ys 0=0:=rfl
theorem a9g(xs ys:List Itm):b1J xs ys 1=xs.length:=rfl
theorem b0k(xs ys:List Itm):b1J xs ys 2=xs.length+ys.length:=rfl
set_option maxHeartbeats 8000000 in
set_option maxRecDepth 100000 in
theorem a9e{P:Program}{k29 k31 k41 k43 k45 k66 k97:Nat}{y29 y31 y41 y43 y45 y66 y97:List Value}(L:LayS P k29 k31 k41 k43 k45 k66 k97 y29 y31 y41 y43 y45 y66 y97)(t94:P.underlying 94=some (.slice 26))(f26:P.funcs[26]? =some Try.f26)(e58: ∀args w,(callFunc 58 args).run P w= .ok (.enter 58 args) w)(i43:Inf P 43 7 1000)
  (h58: ∀(n:Nat) (w:World),n*1000≤140737488355328→Calls P 58 #[.slice none 0 0,.int .i64 n] w fun e w'=> ∃v,e= .returned v∧w'.ownsRow w.heap.size 43 7 v 0 []∧Below w.heap.size w w')
  (A B:Loc) (xs ys:List Itm) (b:Nat) (w:World) (hx:xs.length≤1000) (hy:ys.length≤1000) {lo hh:Nat} (hhh:hh≤w.heap.size) (hX:ItsI lo hh w A xs) (hY:ItsI lo hh w B ys)
  (hb:w.heap[b]? =some (.cells [.slice A.a xs.length A.c,.slice B.a ys.length B.c].toArray 26)):
  Calls P 26 #[.slice (some ⟨b,0,none⟩) 2 2] w fun e w'=> ∃v,e= .returned v∧w'.ownsRow w.heap.size 43 7 v (xs.length+ys.length) (a2D (fI A xs) xs.length++a2D (fI B ys) ys.length)∧Below w.heap.size w w':=by
 have mixed:=L.mixed;have t4:=L.t4;have a4:=L.a4;have z4:=L.z4;have t26:=L.t26;have a26:=L.a26;have z26:=L.z26;have v26:=L.v26;have qu26:=run_underlying L.t26
 have t3:=L.t3;have a3:=L.a3;have z3:=L.z3;have v3:=L.v3;have qu3:=run_underlying L.t3
 have qu94:=run_underlying t94
 have H58:Aside (∀(n:Nat) (w:World),n*1000≤140737488355328→Calls P 58 #[.slice none 0 0,.int .i64 n] w fun e w'=> ∃v,e= .returned v∧w'.ownsRow w.heap.size 43 7 v 0 []∧Below w.heap.size w w'):=h58
 have HX:Aside (ItsI lo hh w A xs):=hX
 have HY:Aside (ItsI lo hh w B ys):=hY
 have HB:Aside (w.heap[b]? =some (.cells [.slice A.a xs.length A.c,.slice B.a ys.length B.c].toArray 26)):=hb
 have c0:=a0B (a0A hb) (j:=0) (v:=.slice A.a xs.length A.c) rfl
 have c1:=a0B (a0A hb) (j:=1) (v:=.slice B.a ys.length B.c) rfl
 clear h58 hX hY hb
 go_enter f26,Try.ntmps26
 go_wp2
 go_loopg [3,11] 2 (fun kx s3 s11 wr=> ∃i:Nat,s3= .int .i64 (b1J xs ys i)∧s11= .int .i64 i∧i≤2∧2-i≤kx∧wr=w)
 case atStart=>exact⟨0,by first|rfl|go_num,rfl,Nat.zero_le _,Nat.le_refl _,rfl⟩
 case round=>
  obtain⟨i,rfl,rfl,hi,hkx,hw⟩:=hrel
  obtain rfl:=hw.symm
  have wj:IntKind.i64.wrap ((i:Int)+1)=(i:Int)+1:=by rw[IntKind.wrap_i64];omega
  obtain rfl|rfl|rfl:i=0∨i=1∨i=2:=by omega
  ·have wl:wrap64 ((b1J xs ys 0:Nat)+(xs.length:Int))=(xs.length:Int):=by(have:=a9h xs ys;have:=a9g xs ys;have:=b0k xs ys;unfold wrap64;omega)
   have ng: ¬((xs.length:Int)<0):=by omega
   go_wp2
   go_roundg 1
   case measure=>omega
   case rel=>exact⟨1,by first|rfl|go_num,by first|rfl|go_num,by omega,by omega,rfl⟩
  ·have wl:wrap64 ((b1J xs ys 1:Nat)+(ys.length:Int))=((b1J xs ys 2:Nat):Int):=by(have:=a9h xs ys;have:=a9g xs ys;have:=b0k xs ys;unfold wrap64;omega)
   have ng: ¬(((b1J xs ys 2:Nat):Int)<0):=by omega
   go_wp2
   go_roundg 0
   case measure=>omega
   case rel=>exact⟨2,by first|rfl|go_num,by first|rfl|go_num,by omega,by omega,rfl⟩
  ·have h58:=H58.out (b1J xs ys 2) w (by(have:=a9h xs ys;have:=a9g xs ys;have:=b0k xs ys;omega))
   clear wj hkx
   go_wp2_with (go_at_fn 58;refine h58.mono ?_;rintro e w2 ⟨v,rfl,ho,hb2⟩;have O2:Aside (w2.ownsRow w.heap.size 43 7 v 0 []):=ho;have B2:Aside (Below w.heap.size w w2):=hb2;clear ho hb2)
   clear h58 c0 c1
   go_loopg [6,27] 2 (fun kx s6 s27 wr=> ∃(i:Nat) (v:Value),v=s6∧s27= .int .i64 i∧i≤2∧2-i≤kx∧Aside (wr.ownsRow w.heap.size 43 7 v (b1J xs ys i) (b7h A B xs ys i)∧Below w.heap.size w wr))
   case atStart=>exact⟨0,_,rfl,rfl,Nat.zero_le _,Nat.le_refl _,⟨O2.out,B2.out⟩⟩
   case round=>
    clear O2 B2
    obtain⟨i,v,rfl,rfl,hi,hkx,M⟩:=hrel
    have wj:IntKind.i64.wrap ((i:Int)+1)=(i:Int)+1:=by rw[IntKind.wrap_i64];omega
    have hbB:=(M.out.2.block _ (a0L HB.out)).trans HB.out
    have KI:Kp lo hh w wr:=(Kp.below M.out.2 lo).mono (Nat.le_refl _) hhh
    obtain rfl|rfl|rfl:i=0∨i=1∨i=2:=by omega
    ·have c0:=a0B (a0A hbB) (j:=0) (v:=.slice A.a xs.length A.c) rfl
     obtain⟨v',w1,hr,ho,hg⟩:=a5p t26 i43 (by decide) M.out.1 M.out.2.size (fI A xs) xs.length (fun i h=>a2X _ h) (fun i h=>a7a _ h) A.c (a8H (HX.out.kp KI)) (by(have:=a9h xs ys;have:=a9g xs ys;have:=b0k xs ys;unfold maxLen;omega)) (by(have:=a9h xs ys;have:=a9g xs ys;have:=b0k xs ys;omega))
     have M2:Aside (w1.ownsRow w.heap.size 43 7 v' (b1J xs ys 1) (b7h A B xs ys 1)∧Below w.heap.size w w1):=⟨by have:=ho;rw[show b1J xs ys 0+xs.length=b1J xs ys 1 by(have:=a9h xs ys;have:=a9g xs ys;omega),show b7h A B xs ys 0= []from rfl,List.nil_append]at this;exact this,M.out.2.grown hg M.out.2.size fun k hk=>(M.out.1.lt k hk).1⟩
     clear ho hg M hbB KI
     go_wp2_with (at_builtin;refine a0E rfl _ _ #[26,26] rfl v (.slice A.a xs.length A.c) rfl rfl _ w1 hr ?_)
     go_roundg 1
     case measure=>omega
     case rel=>exact⟨1,v',rfl,by first|rfl|go_num,by omega,by omega,M2⟩
    ·have c1:=a0B (a0A hbB) (j:=1) (v:=.slice B.a ys.length B.c) rfl
     obtain⟨v',w1,hr,ho,hg⟩:=a5p t26 i43 (by decide) M.out.1 M.out.2.size (fI B ys) ys.length (fun i h=>a2X _ h) (fun i h=>a7a _ h) B.c (a8H (HY.out.kp KI)) (by(have:=a9h xs ys;have:=a9g xs ys;have:=b0k xs ys;unfold maxLen;omega)) (by(have:=a9h xs ys;have:=a9g xs ys;have:=b0k xs ys;omega))
     have M2:Aside (w1.ownsRow w.heap.size 43 7 v' (b1J xs ys 2) (b7h A B xs ys 2)∧Below w.heap.size w w1):=⟨ho,M.out.2.grown hg M.out.2.size fun k hk=>(M.out.1.lt k hk).1⟩
     clear ho hg M hbB KI
     go_wp2_with (at_builtin;refine a0E rfl _ _ #[26,26] rfl v (.slice B.a ys.length B.c) rfl rfl _ w1 hr ?_)
     go_roundg 0
     case measure=>omega
     case rel=>exact⟨2,v',rfl,by first|rfl|go_num,by omega,by omega,M2⟩
    ·clear hbB KI
     go_wp2
     go_returns
     exact⟨v,rfl,M.out.1,M.out.2⟩
end Go.Proofs.Ytcblehiddfnafaa.canonSame
