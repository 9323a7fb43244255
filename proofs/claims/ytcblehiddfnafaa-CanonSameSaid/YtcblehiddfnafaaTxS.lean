/-
  Chapter 28: slices.Backward, walked.
-/
import Derived.RangeFuncNested
import Derived.RangeFuncBound
import Derived.RangeFuncCalls
import Derived.RangeFuncLeaves
import Derived.Shelf.Abstract
import Derived.Shelf.RegionOpen
import Derived.OwnWalkIn
import Derived.TacticsInMore
import Derived.LoopNIn
import Derived.LoopIn
import Derived.Test.YtcblehiddfnafaaTxP
namespace Go.Proofs.Ytcblehiddfnafaa.canonSame
open Go.Shelf Go.RowKit Go.Lib Go.Sort
attribute [local go_sem] Oper.semAt_some
def Kz(n₀ x:Nat)(W W':World):Prop:= ∀k,k<n₀→k≠x→W'.heap[k]? =W.heap[k]?
theorem Kz.trans{n₀ x:Nat}{A B C:World}(h:Kz n₀ x A B)(g:Kz n₀ x B C):Kz n₀ x A C:=fun k a b=>(g k a b).trans (h k a b)
theorem Kz.refl(n₀ x:Nat)(W:World):Kz n₀ x W W:=fun _ _ _=>rfl
theorem Kz.cell{n₀ x:Nat}{A B:World}(h:Kz n₀ x A B){p:Addr}(a:p.block<n₀)(b:p.block≠x):B.cell? p=A.cell? p:=by
 unfold World.cell?
 rw[h _ a b]
theorem Kz.putObj{n₀ x:Nat}{w:World}(hn:n₀≤w.heap.size)(W:World)(l:Nat)(o o':Obj)(hl:w.heap.size≤l)(_:W.heap[l]? =some o)(_:o.isCells=false)(_:o.isWalk=false):Kz n₀ x W (W.putObj l o'):=fun k a _=>World.putObj_heap_other (by omega)
def upto{α:Type}(f:Nat→α)(k:Nat):List α:=(List.range k).map f
theorem a8l{α:Type}(f:Nat→α)(k:Nat):upto f (k+1)=upto f k++ [f k]:=by simp[upto,List.range_succ]
theorem a9q{α:Type}(f:Nat→α)(k:Nat):(upto f k).length=k:=by simp[upto]
set_option maxRecDepth 100000 in
set_option maxHeartbeats 4000000 in
theorem b4q{P:Program}{k29 k31 k41 k43 k45 k66 k97:Nat}{y29 y31 y41 y43 y45 y66 y97:List Value}(L:LayS P k29 k31 k41 k43 k45 k66 k97 y29 y31 y41 y43 y45 y66 y97)(f57:P.funcs[57]? =some Try.f57)
  (F:Fence) (n:Nat) (h57:F.fn 57) (hro:F.round=none) (hn:1≤n) (l Bs n₀ b off len cap:Nat) (hlen:len≤1000000) (hBn:Bs<n₀) (x:Nat) (hBx:Bs≠x) {α:Type} (enc:α→Array Value) (el:Nat→α) (X:Nat→List Value) (henc: ∀j,j<len→enc (el j)= #[.int .i64 ((len:Int)-1-j),.agg (X j).toArray]) (J Jx:List α→World→Prop)
  (hY: ∀pre y W,J pre W→pre.length<len→YieldAt F (n-1) P l (enc y) W fun e W'=>
   (e= .returned (.bool true)∧J (pre++ [y]) W'∧Kz n₀ x W W')∨(e= .returned (.bool false)∧Jx (pre++ [y]) W'))
  (W:World) (hBs:W.cell? ⟨Bs,0,none⟩=some (.slice (some ⟨b,off,none⟩) len cap))
  (hld: ∀j,j<len→ ∀W',Kz n₀ x W W'→Sem.run P (loadCellsFrom ⟨b,off+(len-1-j)*k41,none⟩ 0 k41 #[]) W'= .ok (X j).toArray W') (h0:J [] W):
  CallsIn F n P 57 #[.func (.yield l) #[] #[],.pointer (some ⟨Bs,0,none⟩)] W fun e W'=>(∃v,e= .returned v)∧
   ((∃ys,ys=upto el len∧J ys W')∨(∃pre,(∃k,k≤len∧pre=upto el k)∧Jx pre W')):=by
 have mixed:=L.mixed;have t3:=L.t3;have a3:=L.a3;have z3:=L.z3;have v3:=L.v3;have qu3:=run_underlying L.t3;have t4:=L.t4;have a4:=L.a4;have z4:=L.z4;have qu4:=run_underlying L.t4
 have t23:=L.t23;have a23:=L.a23;have z23:=L.z23;have v23:=L.v23;have qu23:=run_underlying L.t23
 have qu41:=run_underlying L.t41;have a41:=L.a41;have z41:=L.z41;have v41:=L.v41
 have HLD:Aside _:=hld
 have HENC:Aside _:=henc
 have w0:wrap64 ((len:Int)-1)=(len:Int)-1:=by unfold wrap64;omega
 clear hld henc
 refine callsIn_of_wp f57 rfl h57 ?_ hro
 simp only[Try.ntmps57,List.size_toArray,List.length_cons,List.length_nil,Nat.reduceAdd,Nat.reduceSub,Array.replicate_succ,Array.replicate_zero,List.push_toArray,List.append_toArray,List.nil_append,List.cons_append]
 gi_wp2
 gi_loopw [3] (fun i wr=> ∃k:Nat,k≤len∧i= .int .i64 ((len:Int)-1-k)∧J (upto el k) wr∧Kz n₀ x W wr)
  (fun i _=>(intOf i+1).toNat)
 case atStart=>exact⟨0,Nat.zero_le _,by simp,h0,Kz.refl _ _ _⟩
 case round=>
  obtain⟨k,hk,rfl,hJs,hnx⟩:=hrel
  have hBs':=(hnx.cell (p:=⟨Bs,0,none⟩) hBn hBx).trans hBs
  by_cases hlt:k<len
  ·obtain⟨fn,tmps,assign,body,hy,hR⟩:=hY _ (el k) wr hJs (by rw[a9q];exact hlt)
   rw[HENC.out k hlt]at hy
   have lA:=HLD.out k hlt wr hnx
   have hz:(0:Int)≤(len:Int)-1-k:=by omega
   have hz2:(len:Int)-1-k<(len:Int):=by omega
   have hn1:((len:Int)-1-k).toNat=len-1-k:=by omega
   have w1:wrap64 ((len:Int)-1-k-1)=(len:Int)-1-((k+1:Nat):Int):=by unfold wrap64;omega
   gi_wp2
   refine hR.mono ?_
   rintro e W3 (⟨rfl,hJ3,hk3⟩|⟨rfl,hJx3⟩)
   ·gi_wp2
    go_roundw
    case rel=>exact⟨k+1,by omega,by first|rfl|(congr 1;omega),by rw[a8l];exact hJ3,hnx.trans hk3⟩
    case measure=>simp[intOf];omega
   ·gi_wp2
    refine bodyPost_ret (results_none rfl _ _ _) rfl ?_
    exact⟨⟨_,rfl⟩,.inr ⟨_,⟨k+1,by omega,(a8l _ _).symm⟩,hJx3⟩⟩
  ·obtain rfl:k=len:=by omega
   have hz: ¬((0:Int)≤(k:Int)-1-k):=by omega
   gi_wp2
   go_end0
   exact⟨⟨_,rfl⟩,.inl hJs⟩
end Go.Proofs.Ytcblehiddfnafaa.canonSame
namespace Go.Proofs.Ytcblehiddfnafaa.canonSame
open Go.Shelf Go.RowKit Go.Lib Go.Sort
attribute [local go_sem] Oper.semAt_some
set_option maxRecDepth 100000 in
set_option maxHeartbeats 4000000 in
theorem b3a{P:Program}{k29 k31 k41 k43 k45 k66 k97:Nat}{y29 y31 y41 y43 y45 y66 y97:List Value}(L:LayS P k29 k31 k41 k43 k45 k66 k97 y29 y31 y41 y43 y45 y66 y97)(f57:P.funcs[57]? =some Try.f57)
  (F:Fence) (n:Nat) (h57:F.fn 57) (hro:F.round=none) (l Bs:Nat) (a:Option Addr) (cap:Nat) {α:Type} (J:List α→World→Prop)
  (W:World) (hBs:W.cell? ⟨Bs,0,none⟩=some (.slice a 0 cap)) (h0:J [] W):
  CallsIn F n P 57 #[.func (.yield l) #[] #[],.pointer (some ⟨Bs,0,none⟩)] W fun e W'=>(∃v,e= .returned v)∧J [] W':=by
 have mixed:=L.mixed;have t3:=L.t3;have a3:=L.a3;have z3:=L.z3;have v3:=L.v3;have qu3:=run_underlying L.t3;have t4:=L.t4;have a4:=L.a4;have z4:=L.z4;have qu4:=run_underlying L.t4
 have t23:=L.t23;have a23:=L.a23;have z23:=L.z23;have v23:=L.v23;have qu23:=run_underlying L.t23
 have w0:wrap64 (-1)= -1:=by unfold wrap64;omega
 refine callsIn_of_wp f57 rfl h57 ?_ hro
 simp only[Try.ntmps57,List.size_toArray,List.length_cons,List.length_nil,Nat.reduceAdd,Nat.reduceSub,Array.replicate_succ,Array.replicate_zero,List.push_toArray,List.append_toArray,List.nil_append,List.cons_append]
 gi_wp2
 gi_loopw [3] (fun i wr=>i= .int .i64 (-1)∧J [] wr) (fun _ _=>0)
 case atStart=>exact⟨by first|rfl|simp,h0⟩
 case round=>
  obtain⟨rfl,hJs⟩:=hrel
  gi_wp2
  go_end0
  exact⟨⟨_,rfl⟩,hJs⟩
set_option maxRecDepth 100000 in
set_option maxHeartbeats 4000000 in
theorem b6S{P:Program}{k29 k31 k41 k43 k45 k66 k97:Nat}{y29 y31 y41 y43 y45 y66 y97:List Value}(L:LayS P k29 k31 k41 k43 k45 k66 k97 y29 y31 y41 y43 y45 y66 y97)(f21:P.funcs[21]? =some Try.f21)
  (F:Fence) (n:Nat) (h21:F.fn 21) (hro:F.round=none) (a:Option Addr) (len cap:Nat) (w:World):
  CallsIn F n P 21 #[.slice a len cap] w fun e w'=>e= .returned (.func (.func 57) #[] #[.pointer (some ⟨w.heap.size,0,none⟩)])∧w'=w.alloc (.cells #[.slice a len cap] 23):=by
 have mixed:=L.mixed
 have t23:=L.t23;have a23:=L.a23;have z23:=L.z23;have v23:=L.v23;have qu23:=run_underlying L.t23
 refine callsIn_of_wp f21 rfl h21 ?_ hro
 simp only[Try.ntmps21,List.size_toArray,List.length_cons,List.length_nil,Nat.reduceAdd,Nat.reduceSub,Array.replicate_succ,Array.replicate_zero,List.push_toArray,List.append_toArray,List.nil_append,List.cons_append]
 gi_wp2
 go_ret
 exact⟨rfl,rfl⟩
def Bel:Type:={p:Int×Value×Obd//p.2.1.oneCell'=true}
def b7y(x:Bel):Array Value:= #[.int .i64 x.1.1,.agg (obV x.1.2.2 x.1.2.1).toArray]
def elB(A:Loc)(xs:List Obd)(j:Nat):Bel:=⟨((xs.length:Int)-1-j,.slice (A.ad (xs.length-1-j)) (xs[xs.length-1-j]?.getD default).effs.length (A.cp (xs.length-1-j)),xs[xs.length-1-j]?.getD default),rfl⟩
theorem b2E{P:Program}{k29 k31 k41 k43 k45 k66 k97:Nat}{y29 y31 y41 y43 y45 y66 y97:List Value}(L:LayS P k29 k31 k41 k43 k45 k66 k97 y29 y31 y41 y43 y45 y66 y97)(hk:k41=14)(f57:P.funcs[57]? =some Try.f57)
  (F:Fence) (n:Nat) (h57:F.fn 57) (hro:F.round=none) (hn:1≤n) (Bs:Nat) (A:Loc) (xs:List Obd) (hlen:xs.length≤1000000) (w:World) (hB:w.cell? ⟨Bs,0,none⟩=some (.slice A.a xs.length A.c)) (n₀:Nat) (hBn:Bs<n₀) (hn₀:n₀≤w.heap.size) (x:Nat) (hBx:Bs≠x)
  {lo hh:Nat} (hhh:hh≤n₀) (hx:hh≤x) (hI:Nst lo hh w A 14 4 xs obV Obd.effs efV):
  SeqStopsK F n P 57 #[.pointer (some ⟨Bs,0,none⟩)] b7y (Kz n₀ x) (fun ys=>ys=upto (elB A xs) xs.length) (fun _=>True) xs.length w:=fun l J Jx W hW _ _ hY h0=>by
 have hB':W.cell? ⟨Bs,0,none⟩=some (.slice A.a xs.length A.c):=(hW.cell (p:=⟨Bs,0,none⟩) (Nat.lt_of_lt_of_le hBn hn₀)).trans hB
 by_cases h:xs.length=0
 ·rw[h]at hB'
  refine(b3a L f57 F n h57 hro l Bs A.a A.c J W hB' h0).mono fun e W' ⟨he,hj⟩=>⟨he,.inl ⟨_,rfl,by rw[h];exact hj⟩⟩
 ·have hx0:0<xs.length:=by omega
  obtain⟨B,O,hBO,_⟩:=hI.ld P hx0 rfl
  rw[hBO]at hB'
  refine(b4q L f57 F n h57 hro hn l Bs n₀ B O xs.length A.c hlen hBn x hBx b7y (elB A xs) (fun j=>obV (elB A xs j).1.2.2 (elB A xs j).1.2.1) (fun j _=>rfl) J Jx hY W hB' (fun j hj W' hW'=> ?_) h0).mono ?_
  ·obtain⟨B',O',hBO',_,_,hl⟩:=hI.ld P (i:=xs.length-1-j) (by omega) rfl
   rw[hBO]at hBO'
   cases hBO'
   have:=hl W' (fun k _ hk=>(hW' k (by omega) (by omega)).trans (hW.block k (by omega)))
   rw[hk]
   have e:xs[xs.length-1-j]?.getD default=xs[xs.length-1-j]:=by rw[List.getElem?_eq_getElem (by omega)];rfl
   show _=Result.ok (obV (xs[xs.length-1-j]?.getD default) (.slice (A.ad (xs.length-1-j)) (xs[xs.length-1-j]?.getD default).effs.length (A.cp (xs.length-1-j)))).toArray W'
   rw[e]
   exact this
  ·rintro e W' ⟨he,⟨ys,rfl,hj⟩|⟨pre,_,hj⟩⟩
   ·exact⟨he,.inl ⟨_,rfl,hj⟩⟩
   ·exact⟨he,.inr ⟨_,trivial,hj⟩⟩
end Go.Proofs.Ytcblehiddfnafaa.canonSame
namespace Go.Proofs.Ytcblehiddfnafaa.canonSame
open Go.Shelf Go.RowKit Go.Lib Go.Sort
attribute [local go_sem] Oper.semAt_some
def b3q(l:List Bel):Int→Option Int:=l.foldl (fun Z x=>fun j=>if j=x.1.2.2.id then some x.1.2.2.zone else Z j) (fun _=>none)
theorem b2K(l:List Bel)(x:Bel):b3q (l++ [x])=fun j=>if j=x.1.2.2.id then some x.1.2.2.zone else b3q l j:=by
 unfold b3q
 rw[List.foldl_append]
 rfl
structure Zi(w:World)(b:Nat)(pre:List Bel)(W:World):Prop where
 m: ∃n,n≤pre.length∧MapF W b n (b3q pre)
 g:w.grownBy W (some b)
theorem Zi.own{w:World}{b B:Nat}(hb:b<B)(hB:B≤w.heap.size):OwnFrom w.heap.size (Zi w b):=fun s W W' row hs hg hr=>by
 obtain⟨n,hn,hm⟩:=hs.m
 refine⟨⟨n,hn,hm.keep (hg.block b hm.lt (fun e=>by have:=(hr b e.symm).1;omega))⟩,⟨hg.os.trans hs.g.os,hg.tape.trans hs.g.tape,hg.output.trans hs.g.output,Nat.le_trans hs.g.size hg.size,fun k hk hne=>(hg.block k (Nat.lt_of_lt_of_le hk hs.g.size) (fun e=>by have:=(hr k e.symm).1;omega)).trans (hs.g.block k hk hne)⟩⟩
theorem Zi.gr{w W W':World}{b:Nat}{pre:List Bel}(h:Zi w b pre W)(g:Gr W W'):Zi w b pre W':=by
 have gg:=a0i g
 obtain⟨n,hn,hm⟩:=h.m
 exact⟨⟨n,hn,hm.gr g⟩,⟨gg.os.trans h.g.os,gg.tape.trans h.g.tape,gg.output.trans h.g.output,Nat.le_trans h.g.size gg.size,fun k hk hne=>(gg.block k (Nat.lt_of_lt_of_le hk h.g.size) (by simp)).trans (h.g.block k hk hne)⟩⟩
structure Zd(w:World)(A:Lcs)(S:Std)(D:Nat)(W:World):Prop where
 s:W.heap[w.heap.size]? =some (.cells (stV A S).toArray 31)
 n:W.heap[w.heap.size+1+1]? =some (.cells #[.map (some (w.heap.size+1))] 54)
 z:W.heap[w.heap.size+1+1+1+1]? =some (.cells #[.map (some (w.heap.size+1+1+1))] 34)
 m:MapF W (w.heap.size+1) 0 fun _=>none
 y: ∃n,MapF W (w.heap.size+1+1+1) n (b3q (upto (elB A.o S.obs) S.obs.length))
 b:Below w.heap.size w W
 d:W.heap[D]? =some (.deferred (some []))
 h:w.heap.size+6≤D
def zdF(w:World)(A:Lcs)(S:Std):Array Value:= #[.agg (stV A S).toArray,.pointer (some ⟨w.heap.size,0,none⟩),.map none,.pointer (some ⟨w.heap.size+1+1,0,none⟩),.pointer (some ⟨w.heap.size+1+1+1+1,0,none⟩),undef,undef,undef,undef,undef,undef,undef,undef,undef,undef,undef,undef,.map (some (w.heap.size+1)),.agg #[.map (some (w.heap.size+1))],.pointer (some ⟨w.heap.size+1+1,0,none⟩),.map (some (w.heap.size+1+1+1)),.pointer (some ⟨w.heap.size,1,none⟩),.slice A.o.a S.obs.length A.o.c,.func (.func 57) #[] #[.pointer (some ⟨w.heap.size+1+1+1+1+1,0,none⟩)],undef,undef,undef,undef,undef,undef,undef,undef,undef,undef,undef,undef,undef,undef,undef,undef,undef,undef,undef,undef,undef,undef,undef,undef,undef,undef,undef,undef,undef,undef,undef,undef,undef,undef,undef,undef,undef,undef,undef,undef,undef,undef,undef,undef,undef,undef,undef,undef,undef,undef,undef,undef,undef,undef,undef,undef,undef,undef,undef,undef,undef,undef,undef,undef,undef,undef,undef,undef,undef,undef,undef,undef,undef,undef,undef,undef,undef,undef,undef,undef,undef,undef,undef,undef,undef,undef,undef,undef,undef,undef]
set_option linter.unusedVariables false in
set_option maxRecDepth 100000 in
set_option maxHeartbeats 8000000 in
theorem b1n{P:Program}{k29 k31 k41 k43 k45 k66 k97:Nat}{y29 y31 y41 y43 y45 y66 y97:List Value}(L:LayS P k29 k31 k41 k43 k45 k66 k97 y29 y31 y41 y43 y45 y66 y97)(hk:k41=14)(hy3:y41.length=k41)(f8:P.funcs[8]? =some Try.f8)(f21:P.funcs[21]? =some Try.f21)(f57:P.funcs[57]? =some Try.f57)
  (t34:P.underlying 34=some (.map 3 3)) (a34: ∀w,(isAgg 34).run P w= .ok false w) (z34: ∀w,(Go.sizeOf 34).run P w= .ok 1 w) (v34: ∀w,(zeroValue 34).run P w= .ok (.map none) w)
  (t54:P.underlying 54=some (.struct #[{name:= "names",type:=34,offset:=0,embedded:=false,tag:= "",pkgPath:= "trefoil/canon",byteOffset:=0}]))
  (a54: ∀w,(isAgg 54).run P w= .ok true w) (z54: ∀w,(Go.sizeOf 54).run P w= .ok 1 w) (v54: ∀w,(zeroValue 54).run P w= .ok (.agg #[.map none]) w)
  (e21: ∀args w,(callFunc 21 args).run P w= .ok (.enter 21 args) w) (e57: ∀args w,(callFunc 57 args).run P w= .ok (.enter 57 args) w)
  (A:Lcs) (S:Std) (w:World) (hB:Bo S) {lo hh:Nat} (hhh:hh≤w.heap.size) (hI:StI lo hh w A S) (R:Ending→World→Prop)
  (HT: ∀(c:Code) (D:Nat) (W:World),Try.f8.body.bind (a0Z 6)=some c→Zd w A S D W→c.wp P (bodyPostM Fence.wide 5 P Try.f8 R) {tmps:=zdF w A S,defers:=[{target:=.collected D,args:= #[]}]} W):
  Calls P 8 #[.agg (stV A S).toArray] w R:=by
 refine(callsIn_wide (n:=5)).1 ?_
 have HT':Aside (∀(c:Code) (D:Nat) (W:World),Try.f8.body.bind (a0Z 6)=some c→Zd w A S D W→c.wp P (bodyPostM Fence.wide 5 P Try.f8 R) {tmps:=zdF w A S,defers:=[{target:=.collected D,args:= #[]}]} W):=HT
 clear HT
 have mixed:=L.mixed;have t3:=L.t3;have a3:=L.a3;have z3:=L.z3;have v3:=L.v3;have qu3:=run_underlying L.t3;have t4:=L.t4;have a4:=L.a4;have z4:=L.z4
 have t23:=L.t23;have a23:=L.a23;have z23:=L.z23;have v23:=L.v23;have qu23:=run_underlying L.t23
 have qu41:=run_underlying L.t41;have a41:=L.a41;have z41:=L.z41;have v41:=L.v41
 have qu31:=run_underlying L.t31;have a31:=L.a31;have z31:=L.z31;have v31:=L.v31
 have qu34:=run_underlying t34
 obtain⟨W5,hW5⟩: ∃W5,(((((w.alloc (.cells (stV A S).toArray 31)).alloc (.map #[] 0)).alloc (.cells #[.map (some (w.heap.size+1))] 54)).alloc (.map #[] 0)).alloc (.cells #[.map (some (w.heap.size+1+1+1))] 34))=W5:=⟨_,rfl⟩
 have G5:Gr w W5:=by rw[←hW5];exact(((((Gr.refl _).alloc _).alloc _).alloc _).alloc _).alloc _
 have s5:W5.heap.size=w.heap.size+5:=by rw[←hW5];simp
 have b5:W5.heap[w.heap.size]? =some (.cells (stV A S).toArray 31):=by rw[←hW5];exact a4N (a4N (a4N (a4N (a0T _ _) _) _) _) _
 have n5:W5.heap[w.heap.size+1+1]? =some (.cells #[.map (some (w.heap.size+1))] 54):=by
  rw[←hW5]
  have:=a0T ((w.alloc (.cells (stV A S).toArray 31)).alloc (.map #[] 0)) (.cells #[.map (some (w.heap.size+1))] 54)
  rw[World.size_alloc,World.size_alloc]at this
  exact a4N (a4N this _) _
 have z5:W5.heap[w.heap.size+1+1+1+1]? =some (.cells #[.map (some (w.heap.size+1+1+1))] 34):=by
  rw[←hW5]
  have:=a0T ((((w.alloc (.cells (stV A S).toArray 31)).alloc (.map #[] 0)).alloc (.cells #[.map (some (w.heap.size+1))] 54)).alloc (.map #[] 0)) (.cells #[.map (some (w.heap.size+1+1+1))] 34)
  simpa using this
 have m5:MapF W5 (w.heap.size+1) 0 fun _=>none:=by
  rw[←hW5]
  have:=MapF.made (w.alloc (.cells (stV A S).toArray 31))
  rw[World.size_alloc]at this
  exact this.gr ((((Gr.refl _).alloc _).alloc _).alloc _)
 have y5:MapF W5 (w.heap.size+1+1+1) 0 fun _=>none:=by
  rw[←hW5]
  have:=MapF.made (((w.alloc (.cells (stV A S).toArray 31)).alloc (.map #[] 0)).alloc (.cells #[.map (some (w.heap.size+1))] 54))
  simp only[World.size_alloc]at this
  exact this.gr ((Gr.refl _).alloc _)
 have c5:=a0B (a0A b5) (j:=1) (v:=.slice A.o.a S.obs.length A.o.c) rfl
 rw[←hW5]at c5
 have qu54:=run_underlying t54
 have hmm:= @run_makeMap P
 have HI:Aside (StI lo hh w A S):=hI
 have AG5:Aside (Gr w W5):=G5;have As5:Aside _:=s5;have Ab5:Aside _:=b5;have An5:Aside _:=n5;have Az5:Aside _:=z5;have Am5:Aside (MapF W5 (w.heap.size+1) 0 fun _=>none):=m5;have Ay5:Aside (MapF W5 (w.heap.size+1+1+1) 0 fun _=>none):=y5;have HW5:Hid _:=hW5
 clear hI G5 s5 b5 n5 z5 m5 y5 hW5
 refine callsIn_of_wp_marks f8 rfl trivial ?_ rfl
 simp only[Try.ntmps8,List.size_toArray,List.length_cons,List.length_nil,Nat.reduceAdd,Nat.reduceSub,Array.replicate_succ,Array.replicate_zero,List.push_toArray,List.append_toArray,List.nil_append,List.cons_append]
 gi_wp2_with (refine⟨trivial, ?_⟩;gi_at_call 21;refine(b6S L f21 Fence.wide 4 trivial rfl _ _ _ _).mono ?_;rintro e w' ⟨rfl,rfl⟩)
 have G6:Gr W5 (W5.alloc (.cells #[.slice A.o.a S.obs.length A.o.c] 23)):=(Gr.refl _).alloc _
 have b6:=a0T W5 (.cells #[.slice A.o.a S.obs.length A.o.c] 23)
 have s6:(W5.alloc (.cells #[.slice A.o.a S.obs.length A.o.c] 23)).heap.size=w.heap.size+6:=by rw[World.size_alloc,As5.out]
 rw[As5.out]at b6
 rw[HW5.out]
 generalize W5.alloc (.cells #[.slice A.o.a S.obs.length A.o.c] 23)=W6 at G6 b6 s6 ⊢
 have gw:=AG5.out.trans G6
 have hb6:=a0B (a0A b6) (j:=0) (v:=.slice A.o.a S.obs.length A.o.c) rfl
 have zb6:=a0M Az5.out G6
 have hxl:S.obs.length≤1000000:=by have:=hB.obs;omega
 refine wpIn_rangeFunc_ownH (α:=Bel) rfl (by decide) (gf:=57) (lb:= #[.pointer (some ⟨w.heap.size+1+1+1+1+1,0,none⟩)]) rfl trivial e57
  (b2E L hk f57 Fence.wide 4 trivial rfl (by decide) (w.heap.size+1+1+1+1+1) A.o S.obs hxl W6 hb6 W6.heap.size (by omega) (Nat.le_refl _) (w.heap.size+1+1+1) (by omega) (hh:=hh) (lo:=lo) (by omega) (by omega) (Nst.kp HI.out.o (Kp.gr gw hhh)))
  (fun a b=>a.trans b) (Kz.putObj (Nat.le_refl _)) (Below.refl _ _) (fun _=>rfl)
  (Zi W6 (w.heap.size+1+1+1)) (fun _ _ _=>False) (Zi.own (B:=w.heap.size+6) (by omega) (by omega)) (fun _ _ _ _ _ hs _ _=>hs)
  ⟨⟨0,Nat.le_refl _,Ay5.out.gr G6⟩,a5A _ _⟩
  (fun x a' W=> ∃Bx,W6.heap.size≤Bx∧W.heap[Bx]? =some (.cells (obV x.1.2.2 x.1.2.1).toArray 41)∧a'={tmps:= #[.agg (stV A S).toArray,.pointer (some ⟨w.heap.size,0,none⟩),.map none,.pointer (some ⟨w.heap.size+1+1,0,none⟩),.pointer (some ⟨w.heap.size+1+1+1+1,0,none⟩),undef,.pointer (some ⟨Bx,0,none⟩),undef,undef,undef,undef,undef,undef,undef,undef,undef,undef,.map (some (w.heap.size+1)),.agg #[.map (some (w.heap.size+1))],.pointer (some ⟨w.heap.size+1+1,0,none⟩),.map (some (w.heap.size+1+1+1)),.pointer (some ⟨w.heap.size,1,none⟩),.slice A.o.a S.obs.length A.o.c,.func (.func 57) #[] #[.pointer (some ⟨w.heap.size+1+1+1+1+1,0,none⟩)],.int .i64 x.1.1,.agg (obV x.1.2.2 x.1.2.1).toArray,undef,undef,undef,undef,undef,undef,undef,undef,undef,undef,undef,undef,undef,undef,undef,undef,undef,undef,undef,undef,undef,undef,undef,undef,undef,undef,undef,undef,undef,undef,undef,undef,undef,undef,undef,undef,undef,undef,undef,undef,undef,undef,undef,undef,undef,undef,undef,undef,undef,undef,undef,undef,undef,undef,undef,undef,undef,undef,undef,undef,undef,undef,undef,undef,undef,undef,undef,undef,undef,undef,undef,undef,undef,undef,undef,undef,undef,undef,undef,undef,undef,undef,undef,undef,undef,undef,undef,undef],defers:=[]})
  (fun x a' _ X Y row hs hg hr=>by
   obtain⟨Bx,h1,h2,h3⟩:=hs
   refine⟨Bx,h1,(hg.block Bx (a0L h2) (fun e=> ?_)).trans h2,h3⟩
   obtain⟨_,o,ho,hc⟩:=hr Bx e.symm
   rw[h2]at ho
   cases ho
   cases hc)
  ?assign ?body ?done ?stop
 case assign=>
  intro l pre x W K hi hK
  have hy7:(obV x.1.2.2 x.1.2.1).length=y41.length:=by rw[hy3,hk];rfl
  have sA:=a0P P (a0q W y41 41) (obV x.1.2.2 x.1.2.1) hy7 (a1P _ _ x.2)
  have g1:Gr W ((W.alloc (.cells y41.toArray 41)).setCells W.heap.size 0 (obV x.1.2.2 x.1.2.1)):=Gr.sets (W:=W) _ (Nat.le_refl _) _ _ ((Gr.refl _).alloc _)
  have b1:=a0Y (a0T W (.cells y41.toArray 41)) (obV x.1.2.2 x.1.2.1) hy7
  have sw:=hi.g.size
  have hK':=hK _ _ (KeepsFrom.of_grownBy (a0i g1) (fun j e=>by cases e)) (fun k hk' _=>(a0i g1).block k (by omega) (by simp)) (hi.gr g1) ⟨W.heap.size,sw,b1,rfl⟩
  have HK':Aside _:=hK'
  clear hK hK' b1 g1 hi
  simp only[b7y]
  gi_wp2
  exact HK'.out
 case body=>
  rintro l pre x a' W hl ⟨r,hr⟩ hz ⟨Bx,hBx,bX,rfl⟩ hlt
  obtain⟨n,hn,hm⟩:=hz.m
  have zb:=(hz.g.block _ (a0L zb6) (by simp)).trans zb6
  have cz:=a0B (a0A zb) (j:=0) (v:=.map (some (w.heap.size+1+1+1))) rfl
  have c0:=a0B (a0A bX) (j:=0) (v:=.int .i64 x.1.2.2.id) rfl
  have c4:=a0B (a0A bX) (j:=4) (v:=.int .i64 x.1.2.2.zone) rfl
  obtain⟨W',hp,hm',hg'⟩:=hm.put t34 L.t3 (by unfold maxLen;omega) x.1.2.2.id x.1.2.2.zone
  have hsz:=hz.g.size
  have hgg:W6.grownBy W' (some (w.heap.size+1+1+1)):=⟨hg'.os.trans hz.g.os,hg'.tape.trans hz.g.tape,hg'.output.trans hz.g.output,Nat.le_trans hz.g.size hg'.size,fun k hk' hne=>(hg'.block k (Nat.lt_of_lt_of_le hk' hz.g.size) hne).trans (hz.g.block k hk' hne)⟩
  have R:Aside (KeepsFrom W6.heap.size W W'∧Kz W6.heap.size (w.heap.size+1+1+1) W W'∧Zi W6 (w.heap.size+1+1+1) (pre++ [x]) W'):=⟨KeepsFrom.of_grownBy hg' (fun j e=>by cases e;omega),fun k hk' hne=>hg'.block k (by omega) (by simpa using fun e=>hne e),⟨⟨if(b3q pre x.1.2.2.id).isSome then n else n+1,by rw[List.length_append];show _≤pre.length+1;split<;>omega,by rw[b2K];exact hm'⟩,hgg⟩⟩
  clear hm' hg' hgg hm hz zb bX
  gi_wp2
  exact R.out
 case done=>
  rintro D xs W hD rfl hz hD2
  rename_i hKK
  have HKK:Aside _:=hKK
  clear hKK
  have keep: ∀k o,k≠w.heap.size+1+1+1→W6.heap[k]? =some o→W.heap[k]? =some o:=fun k o hk' h=>(hz.g.block k ((Array.getElem?_eq_some_iff.1 h).1) (by simpa using fun e=>hk' e)).trans h
  have ZD:Zd w A S D W:=by
   refine⟨keep _ _ (by omega) (a0M Ab5.out G6),keep _ _ (by omega) (a0M An5.out G6),keep _ _ (by omega) zb6,(Am5.out.gr G6).keep (hz.g.block _ (by omega) (by simp)), ?_, ?_,hD2,by omega⟩
   ·obtain⟨n,_,hm⟩:=hz.m
    exact⟨n,hm⟩
   ·exact(a0N (.refl _ _) (Nat.le_refl _) gw).grown hz.g (by omega) (fun k e=>by cases e;omega)
  refine HKK.out _ _ ?_
  refine wpIn_wide.2 ?_
  exact HT'.out _ D W (by kernel_rfl) ZD
 case stop=>
  rintro D c pre W _ _ h _
  exact h.elim
end Go.Proofs.Ytcblehiddfnafaa.canonSame
namespace Go.Proofs.Ytcblehiddfnafaa.canonSame
def zon(xs:List Obd)(k:Int):Option Int:=(xs.find? fun x=>x.id==k).map Obd.zone
theorem b3p(l:List Bel):b3q l=(l.map fun x=>x.1.2.2).foldl (fun Z x=>fun j=>if j=x.id then some x.zone else Z j) fun _=>none:=by
 unfold b3q
 rw[List.foldl_map]
theorem b6H(A:Loc)(xs:List Obd):(upto (elB A xs) xs.length).map (fun x=>x.1.2.2)=xs.reverse:=by
 apply List.ext_getElem
 ·simp[upto]
 ·intro i h1 h2
  have hi:i<xs.length:=by simpa using h2
  simp[upto,elB,show xs.length-1-i<xs.length by omega]
theorem b1R(A:Loc)(xs:List Obd):b3q (upto (elB A xs) xs.length)=zon xs:=by
 rw[b3p,b6H,List.foldl_reverse]
 funext k
 induction xs with
 |nil=>rfl
 |cons x xs ih=>
  rw[List.foldr_cons]
  unfold zon
  rw[List.find?_cons]
  by_cases h:k=x.id
  ·rw[if_pos h,h]
   simp
  ·rw[if_neg h,ih]
   have:(x.id==k)=false:=by simpa using fun e=>h e.symm
   rw[this]
   rfl
end Go.Proofs.Ytcblehiddfnafaa.canonSame
namespace Go.Proofs.Ytcblehiddfnafaa.canonSame
theorem b3C(xs:List Obd)(n:Int):(xs.find? fun x=>x.id==n)=xs[plc n (xs.map Obd.id)]? :=by
 unfold plc
 induction xs with
 |nil=>rfl
 |cons x xs ih=>
  rw[List.map_cons,List.findIdx_cons,List.find?_cons]
  cases h:x.id==n with
  |true=>rfl
  |false=>exact ih
theorem b0r(S:Std)(n:Int):(zon S.obs n).isSome=decide (0≤S.fi n):=by
 unfold zon Std.fi fnd Std.ids
 rw[b3C,Option.isSome_map]
 by_cases h:plc n (S.obs.map Obd.id)<(S.obs.map Obd.id).length
 ·rw[if_pos h,List.getElem?_eq_getElem (by simpa using h)]
  simp
 ·rw[if_neg h,List.getElem?_eq_none (by simpa using h)]
  rfl
theorem b0T(S:Std)(o ids:List Int):giv (fun k=>(zon S.obs k).isSome) o ids=mor S.fi o ids:=by
 unfold giv mor
 congr 1
 funext o n
 simp only[b0r,decide_eq_true_eq]
theorem b5V(S:Std)(n:Int):((zon S.obs n).isSome&&(zon S.obs n).getD 0==5)=b1k S n:=by
 unfold b1k
 rw[b0r]
 unfold zon Std.fi fnd Std.ids
 rw[b3C]
 by_cases h:plc n (S.obs.map Obd.id)<(S.obs.map Obd.id).length
 ·have h':plc n (S.obs.map Obd.id)<S.obs.length:=by simpa using h
  rw[if_pos h,List.getElem?_eq_getElem h',Int.toNat_natCast,getElem!_pos S.obs _ h']
  rfl
 ·rw[if_neg h]
  rfl
theorem b6A(o:List Int)(n:Int):giv (fun _=>true) o [n]=if plc n o<o.length then o else o++ [n]:=by
 unfold giv
 by_cases h:plc n o<o.length
 ·simp[h]
 ·simp[h]
theorem b5z(S:Std)(o:List Int)(n:Int):giv (fun k=>(zon S.obs k).isSome&&(zon S.obs k).getD 0==5) o [n]=if b1k S n then mor S.fi o [n]else o:=by
 have e:(fun k=>(zon S.obs k).isSome&&(zon S.obs k).getD 0==5)=b1k S:=funext (b5V S)
 rw[e]
 unfold giv mor
 simp only[List.foldl_cons,List.foldl_nil]
 by_cases h:b1k S n=true
 ·have h0:0≤S.fi n:=by
   unfold b1k at h
   rw[Bool.and_eq_true]at h
   exact of_decide_eq_true h.1
  simp[h,h0]
 ·simp[h]
end Go.Proofs.Ytcblehiddfnafaa.canonSame
