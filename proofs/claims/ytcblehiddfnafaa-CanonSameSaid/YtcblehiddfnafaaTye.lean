/-
  Chapter 28: what the program's Same tells, of this program.
-/
import Derived.Test.YtcblehiddfnafaaTyd
import Derived.Test.YtcblehiddfnafaaTxY
namespace Go.Proofs.Ytcblehiddfnafaa.canonSame
open Go.Shelf Go.RowKit Go.Lib Go.Sort
theorem b9N:En 47:=enters_of Try.func47 (by kernel_rfl) rfl
theorem b9M:En 48:=enters_of Try.func48 (by kernel_rfl) rfl
theorem b8W:En 49:=enters_of Try.func49 (by kernel_rfl) rfl
theorem b9L:En 50:=enters_of Try.func50 (by kernel_rfl) rfl
theorem b9K:En 51:=enters_of Try.func51 (by kernel_rfl) rfl
theorem b9J:En 52:=enters_of Try.func52 (by kernel_rfl) rfl
theorem b9I:En 53:=enters_of Try.func53 (by kernel_rfl) rfl
theorem b9H:En 54:=enters_of Try.func54 (by kernel_rfl) rfl
theorem b9G:En 55:=enters_of Try.func55 (by kernel_rfl) rfl
theorem b9F:En 56:=enters_of Try.func56 (by kernel_rfl) rfl
theorem b8T:En 72:=enters_of Try.func72 (by kernel_rfl) rfl
theorem b9C:En 73:=enters_of Try.func73 (by kernel_rfl) rfl
theorem b9B:En 74:=enters_of Try.func74 (by kernel_rfl) rfl
theorem b8S:En 75:=enters_of Try.func75 (by kernel_rfl) rfl
theorem b9A:En 79:=enters_of Try.func79 (by kernel_rfl) rfl
theorem b8R:En 80:=enters_of Try.func80 (by kernel_rfl) rfl
theorem ne45(x y:Int×Int)(W:World):Sem.run Try.prog (binOp .neq 45 (.agg ((fun p:Int×Int=>[Value.int .i64 p.1,.int .i64 p.2]) x).toArray) (.agg ((fun p:Int×Int=>[Value.int .i64 p.1,.int .i64 p.2]) y).toArray)) W= .ok (.bool (!(decide (x=y)))) W:=by
 obtain⟨x0,x1⟩:=x
 obtain⟨y0,y1⟩:=y
 refine(b7F x0 x1 y0 y1 W).trans ?_
 congr 2
 by_cases h0:x0=y0<;>by_cases h1:x1=y1<;>simp[h0,h1]
theorem g45: ∀s t (xs ys:Array Value) W,Sem.run Try.prog (eqGuard .neq 45 s t (.agg xs) (.agg ys)) W= .ok () W:=fun s t xs ys W=>run_eqGuard_agg W .neq 45 s t xs ys (by kernel_rfl)
set_option maxHeartbeats 4000000 in
theorem b6r{P:Program}(f47:P.funcs[47]? =some Try.f47)(e48: ∀args w,(callFunc 48 args).run P w= .ok (.enter 48 args) w)(q:Bool)(a b:Option Addr)(n m c d:Nat)(w:World)
  (h:Calls P 48 #[.slice a n c,.slice b m d,.func (.func 49) #[] #[]] w fun e w'=>e= .returned (.bool q)∧Gr w w'):
  Calls P 47 #[.slice a n c,.slice b m d] w fun e w'=>e= .returned (.bool q)∧Gr w w':=by
 go_enter f47,Try.ntmps47
 go_wp2_with (go_at_fn 48;refine h.mono ?_;rintro e w2 ⟨rfl,hg⟩;have G1:Aside (Gr w w2):=hg;clear hg)
 go_returns
 exact⟨rfl,G1.out⟩
theorem a1v{w:World}{lo hh:Nat}(hhh:hh≤w.heap.size){W:World}(h:Gr w W):Kp lo hh w W:=Kp.gr h hhh
theorem a7v(l m:List (List Int))(A B:Loc)(w:World){lo hh lo' hh':Nat}(hl:l.length≤maxLen)(hin: ∀x∈l,x.length≤maxLen)(h1:hh≤w.heap.size)(h2:hh'≤w.heap.size)(hA:LstI lo hh w A l)(hB:LstI lo' hh' w B m):
  Calls Try.prog 47 #[.slice A.a l.length A.c,.slice B.a m.length B.c] w fun e w'=>e= .returned (.bool (decide (l=m)))∧Gr w w':=by
 refine b6r Try.func47 b9M _ _ _ _ _ _ _ w (b7x a1L Try.func48 b8W l m A B w hl h1 h2 hA hB ?_)
 intro x y i U hx hy hU
 have hxm:x∈l:=List.mem_of_getElem? hx
 exact b5D Try.func49 b8T x y _ _ _ _ U (b3Q a1L Try.func72 x y _ _ _ _ U (hin x hxm) (Nat.le_trans h1 hU.le) (Nat.le_trans h2 hU.le) (RowsI.kp (hA.e i x hx) (a1v h1 hU)) (RowsI.kp (hB.e i y hy) (a1v h2 hU)))
theorem b7D(l m:List Obd)(A B:Loc)(w:World){lo hh lo' hh':Nat}(hl:l.length≤maxLen)(hin: ∀x∈l,x.effs.length≤maxLen)(h1:hh≤w.heap.size)(h2:hh'≤w.heap.size)(hA:b1P lo hh w A l)(hB:b1P lo' hh' w B m):
  Calls Try.prog 52 #[.slice A.a l.length A.c,.slice B.a m.length B.c,.func (.func 53) #[] #[]] w fun e w'=>e= .returned (.bool (decide (l=m)))∧Gr w w':=by
 refine b7w a1L rfl rfl Try.func52 b9I l m A B w hl h1 h2 hA hB ?_
 intro x y i U hx hy hU
 have hxm:x∈l:=List.mem_of_getElem? hx
 refine b6p a1L (by decide) rfl Try.func53 b9B x y _ _ _ _ U fun V hV=> ?_
 have hUV:=hU.trans hV
 exact b6m Try.func74 b9A _ _ _ _ _ _ V (b6E a1L rfl Try.func79 ne97 g97 _ _ _ _ _ _ V (hin x hxm) (Nat.le_trans h1 hUV.le) (Nat.le_trans h2 hUV.le) (RowsI.kp (hA.e i x hx) (a1v h1 hUV)) (RowsI.kp (hB.e i y hy) (a1v h2 hUV)))
theorem b2p(l m:List Itm)(A B:Loc)(w:World){lo hh lo' hh':Nat}(hl:l.length≤maxLen)(hin: ∀x∈l,x.ts.length≤maxLen)(h1:hh≤w.heap.size)(h2:hh'≤w.heap.size)(hA:ItsI lo hh w A l)(hB:ItsI lo' hh' w B m):
  Calls Try.prog 54 #[.slice A.a l.length A.c,.slice B.a m.length B.c,.func (.func 55) #[] #[]] w fun e w'=>e= .returned (.bool (decide (l=m)))∧Gr w w':=by
 refine b7v a1L rfl rfl Try.func54 b9G l m A B w hl h1 h2 hA hB ?_
 intro x y i U hx hy hU
 have hxm:x∈l:=List.mem_of_getElem? hx
 refine b6o a1L (by decide) rfl Try.func55 b8S x y _ _ _ _ U fun V hV=> ?_
 have hUV:=hU.trans hV
 exact b5C Try.func75 b8R _ _ _ _ _ _ V (b3P a1L rfl Try.func80 ne45 g45 _ _ _ _ _ _ V (hin x hxm) (Nat.le_trans h1 hUV.le) (Nat.le_trans h2 hUV.le) (RowsI.kp (hA.e i x hx) (a1v h1 hUV)) (RowsI.kp (hB.e i y hy) (a1v h2 hUV)))
theorem a3n{n:Nat}(h:n≤900):n≤maxLen:=Nat.le_trans h (by decide)
theorem b4F(A B:Lcs)(S T:Std)(w:World)(hB:Bd S){lo hh lo' hh':Nat}(h1:hh≤w.heap.size)(h2:hh'≤w.heap.size)(hA:StI lo hh w A S)(hB':StI lo' hh' w B T):
  Calls Try.prog 14 #[.agg (stV A S).toArray,.agg (stV B T).toArray] w fun e w'=>e= .returned (.bool (decide (S=T)))∧Gr w w':=by
 refine b6s a1L (by decide) rfl rfl rfl Try.func14 b9N b8W b9L b9K b9J b9H b9F (fun a b l m hl hm W=>eqR a b l m hl hm W)
  (fun A S U=>b6v a1L (by decide) rfl Try.func50 Try.underlying85 Try.isAgg85 rfl Try.sizeOf85 Try.zeroValue85 A S U) A B S T w ?_ ?_ ?_ ?_ ?_ ?_ ?_ ?_ ?_ ?_
 ·intro U g
  exact b6q Try.func51 b9C _ _ _ _ _ _ U (b6F a1L rfl Try.func73 ne66 g66 _ _ _ _ _ _ U (a3n hB.pl) (Nat.le_trans h1 g.le) (Nat.le_trans h2 g.le) (RowsI.kp hA.p (a1v h1 g)) (RowsI.kp hB'.p (a1v h2 g)))
 ·exact fun U g=>b7D _ _ A.o B.o U (a3n hB.obs) (fun x hx=>(hB.effs x hx).1) (Nat.le_trans h1 g.le) (Nat.le_trans h2 g.le) (hA.o.kp (a1v h1 g)) (hB'.o.kp (a1v h2 g))
 ·exact fun U g=>a7v _ _ A.l B.l U (a3n hB.libs.1) (fun x hx=>a3n (hB.libs.2 x hx)) (Nat.le_trans h1 g.le) (Nat.le_trans h2 g.le) (hA.l.kp (a1v h1 g)) (hB'.l.kp (a1v h2 g))
 ·exact fun U g=>a7v _ _ A.h B.h U (a3n hB.hands.1) (fun x hx=>a3n (hB.hands.2 x hx)) (Nat.le_trans h1 g.le) (Nat.le_trans h2 g.le) (hA.h.kp (a1v h1 g)) (hB'.h.kp (a1v h2 g))
 ·exact fun U g=>a7v _ _ A.g B.g U (a3n hB.graves.1) (fun x hx=>a3n (hB.graves.2 x hx)) (Nat.le_trans h1 g.le) (Nat.le_trans h2 g.le) (hA.g.kp (a1v h1 g)) (hB'.g.kp (a1v h2 g))
 ·exact fun U g=>a7v _ _ A.x B.x U (a3n hB.exiles.1) (fun x hx=>a3n (hB.exiles.2 x hx)) (Nat.le_trans h1 g.le) (Nat.le_trans h2 g.le) (hA.x.kp (a1v h1 g)) (hB'.x.kp (a1v h2 g))
 ·intro U g
  exact b5D Try.func49 b8T _ _ _ _ _ _ U (b3Q a1L Try.func72 _ _ _ _ _ _ U (a3n hB.field) (Nat.le_trans h1 g.le) (Nat.le_trans h2 g.le) (RowsI.kp hA.f (a1v h1 g)) (RowsI.kp hB'.f (a1v h2 g)))
 ·exact fun U g=>b2p _ _ A.s B.s U (a3n hB.stack.1) (fun x hx=>a3n (hB.stack.2 x hx)) (Nat.le_trans h1 g.le) (Nat.le_trans h2 g.le) (hA.s.kp (a1v h1 g)) (hB'.s.kp (a1v h2 g))
 ·exact fun U g=>b2p _ _ A.w B.w U (a3n hB.waits.1) (fun x hx=>a3n (hB.waits.2 x hx)) (Nat.le_trans h1 g.le) (Nat.le_trans h2 g.le) (hA.wt.kp (a1v h1 g)) (hB'.wt.kp (a1v h2 g))
 ·intro U g
  refine b6n a1L (by decide) rfl Try.func56 b8S _ _ _ _ _ _ U fun V hV=> ?_
  have hUV:=g.trans hV
  exact b5C Try.func75 b8R _ _ _ _ _ _ V (b3P a1L rfl Try.func80 ne45 g45 _ _ _ _ _ _ V (a3n hB.ts) (Nat.le_trans h1 hUV.le) (Nat.le_trans h2 hUV.le) (RowsI.kp hA.t (a1v h1 hUV)) (RowsI.kp hB'.t (a1v h2 hUV)))
end Go.Proofs.Ytcblehiddfnafaa.canonSame
namespace Go.Proofs.Ytcblehiddfnafaa.canonSame
open Go.Shelf Go.RowKit Go.Lib Go.Sort
noncomputable def b4O:List Oper:=match Try.f13.body.bind (opsOf 1)with
 |some l=>l
 |none=>[]
noncomputable def b2I(i:Nat):Oper:=match b4O[i]? with
 |some o=>o
 |none=>⟨none,.ready 0,0,"", #[],none⟩
theorem a8a{P:Program}{base:Nat→Nat}{S:World→Prop}{opsL:List Oper}{m:Nat}{df:List Deferred}{Q:Exit→Act→World→Prop}{i d f:Nat}{o:Oper}{c:Call}{s:Ps}{li:Array Bool}{a:Act}{w:World}{fuel:Nat}{vs:List Value}{v:World→Value→Prop}
  (ho:opsL[i]? =some o) (hd:o.dst=some d) (hop:o.op= .call c) (hm:Nat.blt d m=true) (hr:Region.ready .any opsL.toArray li= [i]) (hw:a5W opsL s o=some true) (hct:a8Z s.known c=some (f,vs)) (hf: ∀args w,(callFunc f args).run P w= .ok (.enter f args) w) (g:Ga base m df s.known a)
  (hcall:Calls P f vs.toArray w fun e w'=> ∃u,e= .returned u∧v w' u∧S w')
  (K: ∀a' w' u,v w' u→S w'→Ga base m df ((d,.val u)::s.known) a'→wpAnyH P .any opsL.toArray Q S fuel (li.setIfInBounds i true) a' w'):wpAnyH P .any opsL.toArray Q S (fuel+1) li a w:=by
 refine b6O (s:=s) (v:=v) (R:=fun _=>True) ho hd hm hr hw g (a8Y hct g.k hf hop w) ?_ ?_
 ·refine Calls.mono hcall ?_
  rintro e w' ⟨u,rfl,h1,h2⟩
  exact⟨_,rfl,h1,h2,trivial⟩
 ·rintro w' u hv hS' _
  exact K _ w' u hv hS' (g.put (by unfold Nat.blt at hm;exact Nat.le_of_ble_eq_true hm) (.val u))
theorem b8a{w:World}{A B:List Value}{t u:TypeId}:((w.alloc (.cells A.toArray t)).alloc (.cells B.toArray u)).heap.size=w.heap.size+2:=by simp
set_option maxHeartbeats 8000000 in
set_option maxRecDepth 100000 in
theorem b6J{P:Program}{k29 k31 k41 k43 k45 k66 k97:Nat}{y29 y31 y41 y43 y45 y66 y97:List Value}(L:LayS P k29 k31 k41 k43 k45 k66 k97 y29 y31 y41 y43 y45 y66 y97)(hk:k31=25)(f13:P.funcs[13]? =some Try.f13)(e10: ∀args w,(callFunc 10 args).run P w= .ok (.enter 10 args) w)(e14: ∀args w,(callFunc 14 args).run P w= .ok (.enter 14 args) w)
  (A B:Lcs) (S T S' T':Std) (b:Bool) (w:World)
  (h10a: ∀W,Below w.heap.size w W→Calls P 10 #[.agg (stV A S).toArray] W fun e w'=> ∃A',e= .returned (.agg (stV A' S').toArray)∧StI 0 w'.heap.size w' A' S'∧Below W.heap.size W w')
  (h10b: ∀W,Below w.heap.size w W→Calls P 10 #[.agg (stV B T).toArray] W fun e w'=> ∃A',e= .returned (.agg (stV A' T').toArray)∧StI 0 w'.heap.size w' A' T'∧Below W.heap.size W w')
  (h14: ∀A B W,StI 0 W.heap.size W A S'→StI 0 W.heap.size W B T'→Calls P 14 #[.agg (stV A S').toArray,.agg (stV B T').toArray] W fun e w'=>e= .returned (.bool b)∧Below W.heap.size W w'):
  Calls P 13 #[.agg (stV A S).toArray,.agg (stV B T).toArray] w fun e w'=>e= .returned (.bool b)∧Below w.heap.size w w':=by
 have mixed:=L.mixed
 have t31:=L.t31;have a31:=L.a31;have z31:=L.z31;have v31:=L.v31;have qu31:=run_underlying L.t31
 have HK:Hid (k31=25):=hk
 obtain⟨g0,c1,c2⟩:=a0W w (stV A S) (stV B T) 31 31
 have G0:Aside (Gr w _):=g0
 have C1:Aside _:=c1
 have C2:Aside _:=c2
 have H10a:Aside (∀W,Below w.heap.size w W→Calls P 10 #[.agg (stV A S).toArray] W fun e w'=> ∃A',e= .returned (.agg (stV A' S').toArray)∧StI 0 w'.heap.size w' A' S'∧Below W.heap.size W w'):=h10a
 have H10b:Aside (∀W,Below w.heap.size w W→Calls P 10 #[.agg (stV B T).toArray] W fun e w'=> ∃A',e= .returned (.agg (stV A' T').toArray)∧StI 0 w'.heap.size w' A' T'∧Below W.heap.size W w'):=h10b
 have H14:Aside (∀A B W,StI 0 W.heap.size W A S'→StI 0 W.heap.size W B T'→Calls P 14 #[.agg (stV A S').toArray,.agg (stV B T').toArray] W fun e w'=>e= .returned (.bool b)∧Below W.heap.size W w'):=h14
 have xl:(stV A S).length=k31:=by rw[hk];rfl
 have yl:(stV B T).length=k31:=by rw[hk];rfl
 generalize hX0:stV A S=X0 at C1 C2 G0 xl ⊢
 have HX0:Hid _:=hX0
 generalize hY0:stV B T=Y0 at C1 C2 G0 yl ⊢
 have HY0:Hid _:=hY0
 have HSZ:Aside (((w.alloc (.cells X0.toArray 31)).alloc (.cells Y0.toArray 31)).heap.size=w.heap.size+2):=b8a
 clear hX0 hY0 g0 c1 c2 h10a h10b h14 hk
 go_enter f13,Try.ntmps13
 go_upto_region 1 with fail
 generalize (w.alloc (.cells X0.toArray 31)).alloc (.cells Y0.toArray 31)=W0 at C1 C2 G0 HSZ ⊢
 refine Code.wp_mono (Q:=Exit.then (fun a' w'=>a'.defers= []∧a'.tmps[4]? =some (.bool b)∧Below w.heap.size w w') (fun _ _ _=>False)) ?_ ?_
 ·intro e a' w' h
  cases e with
  |normal=>
   obtain⟨h1,h2,h3⟩:=h
   go_wp2
   exact a2r rfl h2 h1 ⟨rfl,h3⟩
  |_=>exact False.elim h
 refine wp_region_held_drew (S:=fun U=>U.heap[w.heap.size]? =some (.cells X0.toArray 31)∧U.heap[w.heap.size+1]? =some (.cells Y0.toArray 31)∧Below w.heap.size w U) mixed ⟨C1.out,C2.out,(a0N (.refl _ _) (Nat.le_refl _) G0.out.drew)⟩ (fun hS0=> ?_)
 generalize W0.drew=U0 at hS0 ⊢
 refine a5w (base:=b6b w.heap.size (w.heap.size+1)) (m:=10) (df:=[]) (known:=[(2,.ptr 0 0),(3,.ptr 1 0)]) ⟨fun k s h=>by rcases a1C h with⟨rfl,rfl⟩|⟨rfl,rfl⟩<;>rfl,by rfl,by rfl⟩ (fun a1 g1=> ?_)
 generalize hops:List.toArray _=opsA
 obtain rfl:opsA=b4O.toArray:=hops.symm.trans (by kernel_rfl)
 clear hops
 have hsz:b4O.toArray.size=6:=by kernel_rfl
 rw[hsz]
 obtain rfl:=HX0.out
 obtain rfl:=HY0.out
 have hsel:Region.noSelect b4O.toArray=true:=by kernel_rfl
 have e2:a1.eval (.tmp 2)= .pointer (some ⟨w.heap.size,0,none⟩):=a0h g1.k (s:=.ptr 0 0) rfl
 have o0:(b2I 0).op= .load 31 (.tmp 2):=by kernel_rfl
 refine a4B (i:=0) (d:=5) (o:=b2I 0) (s:=⟨[(2,.ptr 0 0),(3,.ptr 1 0)],[],[]⟩) (v:=.agg (stV A S).toArray) hsel (fun _ _ _ _ _ h=>h) (by kernel_rfl) (by kernel_rfl) (by kernel_rfl) (by kernel_rfl) (by kernel_rfl) (by kernel_rfl) g1 ?_ hS0 (fun a2 g2=> ?_)
 ·intro W hW
  have lx:=a0I P (a0A hW.1) xl
  clear hS0 hW
  unfold execOp
  simp only[o0,e2]
  go_simp
 have e3:a2.eval (.tmp 3)= .pointer (some ⟨w.heap.size+1,0,none⟩):=a0h g2.k (s:=.ptr 1 0) rfl
 have o2:(b2I 2).op= .load 31 (.tmp 3):=by kernel_rfl
 refine a4B (i:=2) (d:=7) (o:=b2I 2) (s:=⟨[(5,.val (.agg (stV A S).toArray)),(2,.ptr 0 0),(3,.ptr 1 0)],[],[]⟩) (v:=.agg (stV B T).toArray) hsel (fun _ _ _ _ _ h=>h) (by kernel_rfl) (by kernel_rfl) (by kernel_rfl) (by kernel_rfl) (by kernel_rfl) (by kernel_rfl) g2 ?_ hS0 (fun a3 g3=> ?_)
 ·intro W hW
  have lx:=a0I P (a0A hW.2.1) yl
  clear hS0 hW
  unfold execOp
  simp only[o2,e3]
  go_simp
 have keep: ∀{U V:World},(U.heap[w.heap.size]? =some (.cells (stV A S).toArray 31)∧U.heap[w.heap.size+1]? =some (.cells (stV B T).toArray 31)∧Below w.heap.size w U)→Below U.heap.size U V→(V.heap[w.heap.size]? =some (.cells (stV A S).toArray 31)∧V.heap[w.heap.size+1]? =some (.cells (stV B T).toArray 31)∧Below w.heap.size w V):=fun{U V} h hb=>⟨(hb.block _ (a0L h.1)).trans h.1,(hb.block _ (a0L h.2.1)).trans h.2.1,h.2.2.trans (hb.mono h.2.2.size)⟩
 have k1:a8Z [(7,.val (.agg (stV B T).toArray)),(5,.val (.agg (stV A S).toArray)),(2,.ptr 0 0),(3,.ptr 1 0)] {callee:=.value (.func 10),args:= #[.tmp 5],argTypes:= #[31]}=some (10,[.agg (stV A S).toArray]):=by kernel_rfl
 have o1:(b2I 1).op= .call {callee:=.value (.func 10),args:= #[.tmp 5],argTypes:= #[31]}:=by kernel_rfl
 refine a8a (i:=1) (d:=6) (f:=10) (o:=b2I 1) (s:=⟨[(7,.val (.agg (stV B T).toArray)),(5,.val (.agg (stV A S).toArray)),(2,.ptr 0 0),(3,.ptr 1 0)],[],[]⟩) (v:=fun w' u=> ∃A',u= .agg (stV A' S').toArray∧StI 0 w'.heap.size w' A' S') (by kernel_rfl) (by kernel_rfl) o1 (by kernel_rfl) (by kernel_rfl) (by kernel_rfl) k1 e10 g3 ?_ ?_
 ·refine Calls.mono (H10a.out U0 hS0.2.2) ?_
  rintro e w' ⟨A',rfl,h1,h2⟩
  exact⟨_,rfl,⟨A',rfl,h1⟩,keep hS0 h2⟩
 rintro a4 U1 u ⟨A1,rfl,hA1⟩ hS1 g4
 have k3:a8Z [(6,.val (.agg (stV A1 S').toArray)),(7,.val (.agg (stV B T).toArray)),(5,.val (.agg (stV A S).toArray)),(2,.ptr 0 0),(3,.ptr 1 0)] {callee:=.value (.func 10),args:= #[.tmp 7],argTypes:= #[31]}=some (10,[.agg (stV B T).toArray]):=by kernel_rfl
 have o3:(b2I 3).op= .call {callee:=.value (.func 10),args:= #[.tmp 7],argTypes:= #[31]}:=by kernel_rfl
 refine a8a (i:=3) (d:=8) (f:=10) (o:=b2I 3) (s:=⟨[(6,.val (.agg (stV A1 S').toArray)),(7,.val (.agg (stV B T).toArray)),(5,.val (.agg (stV A S).toArray)),(2,.ptr 0 0),(3,.ptr 1 0)],[],[]⟩) (v:=fun w' u=> ∃A',u= .agg (stV A' T').toArray∧StI 0 w'.heap.size w' A' T'∧StI 0 w'.heap.size w' A1 S') (by kernel_rfl) (by kernel_rfl) o3 (by kernel_rfl) (by kernel_rfl) (by kernel_rfl) k3 e10 g4 ?_ ?_
 ·refine Calls.mono (H10b.out U1 hS1.2.2) ?_
  rintro e w' ⟨A',rfl,h1,h2⟩
  exact⟨_,rfl,⟨A',rfl,h1,(hA1.kp ((Kp.below h2 0).mono (Nat.le_refl _) (Nat.le_refl _))).mono (Nat.le_refl _) h2.size⟩,keep hS1 h2⟩
 rintro a5 U2 u ⟨B1,rfl,hB1,hA2⟩ hS2 g5
 have k4:a8Z [(8,.val (.agg (stV B1 T').toArray)),(6,.val (.agg (stV A1 S').toArray)),(7,.val (.agg (stV B T).toArray)),(5,.val (.agg (stV A S).toArray)),(2,.ptr 0 0),(3,.ptr 1 0)] {callee:=.value (.func 14),args:= #[.tmp 6,.tmp 8],argTypes:= #[31,31]}=some (14,[.agg (stV A1 S').toArray,.agg (stV B1 T').toArray]):=by kernel_rfl
 have o4:(b2I 4).op= .call {callee:=.value (.func 14),args:= #[.tmp 6,.tmp 8],argTypes:= #[31,31]}:=by kernel_rfl
 refine a8a (i:=4) (d:=9) (f:=14) (o:=b2I 4) (s:=⟨[(8,.val (.agg (stV B1 T').toArray)),(6,.val (.agg (stV A1 S').toArray)),(7,.val (.agg (stV B T).toArray)),(5,.val (.agg (stV A S).toArray)),(2,.ptr 0 0),(3,.ptr 1 0)],[],[]⟩) (v:=fun _ u=>u= .bool b) (by kernel_rfl) (by kernel_rfl) o4 (by kernel_rfl) (by kernel_rfl) (by kernel_rfl) k4 e14 g5 ?_ ?_
 ·refine Calls.mono (H14.out A1 B1 U2 hA2 hB1) ?_
  rintro e w' ⟨rfl,h2⟩
  exact⟨_,rfl,rfl,keep hS2 h2⟩
 rintro a6 U3 u rfl hS3 g6
 have e9:a6.eval (.tmp 9)= .bool b:=a0h g6.k (s:=.val (.bool b)) rfl
 have o5:(b2I 5).op= .assign (.tmp 9):=by kernel_rfl
 refine a4B (i:=5) (d:=4) (o:=b2I 5) (s:=⟨[(9,.val (.bool b)),(8,.val (.agg (stV B1 T').toArray)),(6,.val (.agg (stV A1 S').toArray)),(7,.val (.agg (stV B T).toArray)),(5,.val (.agg (stV A S).toArray)),(2,.ptr 0 0),(3,.ptr 1 0)],[],[]⟩) (v:=.bool b) hsel (fun _ _ _ _ _ h=>h) (by kernel_rfl) (by kernel_rfl) (by kernel_rfl) (by kernel_rfl) (by kernel_rfl) (by kernel_rfl) g6 ?_ hS3 (fun a7 g7=> ?_)
 ·intro W hW
  unfold execOp
  simp only[o5,e9]
  rfl
 exact wpAnyH_done (by kernel_rfl) ⟨g7.d,g7.k 4 _ rfl,hS3.2.2⟩ _
end Go.Proofs.Ytcblehiddfnafaa.canonSame
