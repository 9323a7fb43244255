/-
  Contracts: which codes and which cards may be, as the program's functions and the document's tell it.
-/
import Derived.Test.YtmmmknhdigapkaaTxA
import Derived.Test.YtmmmknhdigapkaaEv4
namespace Go.Proofs.Ytmmmknhdigapkaa.plq
open Go.Ev Go.RowKit
set_option linter.unusedVariables false
noncomputable section
abbrev Ins:=Int×Int×Int
def I64(x:Int):Prop:= -9223372036854775808≤x∧x≤9223372036854775807
theorem a2d:I64 0:=⟨by decide,by decide⟩
theorem b8A{n:Nat}(h:(n:Int)≤9223372036854775807):I64 (n:Int):=⟨by omega,h⟩
structure Lst(w:World)(oa:Option Addr)(B O:Nat)(xs:List Ins):Prop where
 cells: ∀(i:Nat) (x:Ins),xs[i]? =some x→oa=some ⟨B,O,none⟩∧B<w.heap.size∧w.cell? ⟨B,O+i*3,none⟩=some (.int .i64 x.1)∧w.cell? ⟨B,O+i*3+1,none⟩=some (.int .i64 x.2.1)∧w.cell? ⟨B,O+i*3+2,none⟩=some (.int .i64 x.2.2)
 fits: ∀x∈xs,I64 x.1∧I64 x.2.1∧I64 x.2.2
theorem c1M{α:Type}{xs:List α}{i:Nat}{d:α}(h:i<xs.length):xs[i]? =some (xs.getD i d):=by simp[List.getD_eq_getElem?_getD,h]
theorem Lst.fit{w:World}{oa:Option Addr}{B O:Nat}{xs:List Ins}(h:Lst w oa B O xs)(i:Nat):I64 (xs.getD i (0,0,0)).1∧I64 (xs.getD i (0,0,0)).2.1∧I64 (xs.getD i (0,0,0)).2.2:=by
 by_cases hi:i<xs.length
 ·exact h.fits _ (List.mem_of_getElem? (c1M hi))
 ·have e:xs.getD i (0,0,0)=(0,0,0):=by simp[List.getD_eq_getElem?_getD,List.getElem?_eq_none (by omega:xs.length≤i)]
  rw[e];exact⟨a2d,a2d,a2d⟩
def b4P(t c:Int)(xs:List Ins)(i:Nat):Nat→Int
 |0=>t|1=>c|2=>xs.length|3=>i
 |4=>if i<xs.length then i+1 else 1
 |6=>(xs.getD i (0,0,0)).1|7=>(xs.getD i (0,0,0)).2.1|8=>(xs.getD i (0,0,0)).2.2|_=>0
def c2n(oa:Option Addr)(cap B O:Nat)(t c:Int)(xs:List Ins)(i:Nat):Rho:=
 ⟨b4P t c xs i,fun _=>.slice oa xs.length cap,fun _=>B,fun k=>if k=5 then O+i*3 else 0,fun _=>rfl,fun _=>[],fun _ _ h=>by cases h⟩
section
variable{w:World}{oa:Option Addr}{cap B O:Nat}{t c:Int}{xs:List Ins}{i:Nat}
theorem b8U(hL:Lst w oa B O xs)(ht:I64 t)(hc:I64 c)(hn:(xs.length:Int)≤9223372036854775807)(hi:i≤xs.length): ∀k,I64 (b4P t c xs i k):=fun k=>by
 obtain⟨f1,f2,f3⟩:=hL.fit i
 match k with
 |0=>exact ht
 |1=>exact hc
 |2=>exact b8A (by omega)
 |3=>exact b8A (by omega)
 |4=>exact⟨by show _≤(if i<xs.length then(i:Int)+1 else 1);split<;>omega,by show(if i<xs.length then(i:Int)+1 else 1)≤_;split<;>omega⟩
 |5=>exact a2d
 |6=>exact f1
 |7=>exact f2
 |8=>exact f3
 |k+9=>exact a2d
theorem e4f(hL:Lst w oa B O xs)(ht:I64 t)(hc:I64 c)(hn:(xs.length:Int)≤9223372036854775807)(hi:i≤xs.length):IvOK [(-9223372036854775808,9223372036854775807),(-9223372036854775808,9223372036854775807),(0,9223372036854775807)] (c2n oa cap B O t c xs i):=
 b4D (f:=b4P t c xs i) ⟨ht,hc,⟨by show(0:Int)≤(xs.length:Int);omega,by show(xs.length:Int)≤_;omega⟩,trivial⟩ (b8U hL ht hc hn hi)
structure In4(t c:Int)(xs:List Ins):Prop where
 t0:0≤t
 t2:t≤2
 c0:0≤c
 c40:c≤40
 n32:xs.length≤32
theorem e3M(hL:Lst w oa B O xs)(hin:In4 t c xs)(hi:i≤xs.length):IvOK [(0,2),(0,40),(0,32),(0,32),(1,33),(-9223372036854775808,9223372036854775807),(-9223372036854775808,9223372036854775807),(-9223372036854775808,9223372036854775807),(-9223372036854775808,9223372036854775807)] (c2n oa cap B O t c xs i):=by obtain⟨h1,h2,h3,h4,h5⟩:=hin;have f:=b8U hL (t:=t) (c:=c) ⟨by omega,by omega⟩ ⟨by omega,by omega⟩ (by omega) hi;exact b4D (f:=b4P t c xs i) ⟨⟨h1,h2⟩,⟨h3,h4⟩,⟨by show(0:Int)≤(xs.length:Int);omega,by show(xs.length:Int)≤_;omega⟩,⟨by show 0≤(i:Int);omega,by show(i:Int)≤_;omega⟩,⟨by show 1≤(if i<xs.length then(i:Int)+1 else 1);split<;>omega,by show(if i<xs.length then(i:Int)+1 else 1)≤_;split<;>omega⟩,f 5,f 6,f 7,f 8,trivial⟩ f
theorem b8D(w:World){fs:List Fact}{a b:Nat}{ρ:Rho}(h:c2X fs a b=true)(k:b1H fs ρ):ρ.int a<ρ.int b:=by
 unfold c2X at h;rw[List.any_eq_true]at h;obtain⟨f,hf,hh⟩:=h;split at hh
 ·rename_i k1 x k2 y;simp only[Bool.and_eq_true]at hh;have e1:=Nat.eq_of_beq_eq_true hh.1;have e2:=Nat.eq_of_beq_eq_true hh.2;subst e1 e2;exact d7C Try.prog w (k _ hf)
 ·cases hh
theorem c2o:b1H codeF (c2n oa cap B O t c xs i):=a0P (b1V rfl rfl) a1L
theorem c7F{iv:Ivs}{fs:List Fact}(h1:IvOK iv (c2n oa cap B O t c xs i))(h2:b1H fs (c2n oa cap B O t c xs i))(φ:Phi)(hφ:φ.ρ=c2n oa cap B O t c xs i):EnvP (e2O iv fs) φ w:=
 ⟨by rw[hφ];exact h1,by rw[hφ];exact fs_app h2 c2o,fun k cs h=>by cases h⟩
theorem c9s(hL:Lst w oa B O xs)(hn:(xs.length:Int)≤9223372036854775807){iv:Ivs}{fs:List Fact}(h1:IvOK iv (c2n oa cap B O t c xs i))(h2:b1H fs (c2n oa cap B O t c xs i))(φ:Phi)(hφ:φ.ρ=c2n oa cap B O t c xs i):EnvP (c8M iv fs) φ w:=by
 unfold c8M;split
 ·rename_i hh;have hi:(i:Int)<(xs.length:Int):=b8D w hh h2;obtain⟨g1,g2,g3,g4,g5⟩:=hL.cells i _ (c1M (d:=(0,0,0)) (by omega))
  refine⟨by rw[hφ];exact h1,by
   rw[hφ];refine fs_app h2 (fs_app c2o (a0P ?_ (a0P ?_ a1L)))
   ·refine c7R (n:=i) (B:=B) (O:=O) (l:=xs.length) (c:=cap) ?_ rfl (by omega) rfl rfl;show some (Value.slice oa xs.length cap)=_;rw[g1]
   ·have e4:b4P t c xs i 4=(i:Int)+1:=by show(if i<xs.length then(i:Int)+1 else 1)=_;rw[if_pos (by omega)]
    exact c2g e4 (show -9223372036854775808≤b4P t c xs i 4 by rw[e4];omega) (show b4P t c xs i 4≤9223372036854775807 by rw[e4];omega),fun k cs h=> ?_⟩
  have hk:k=5∧cs= [sv iv .i64 6,si 7,si 8]:=by
   simp only at h;split at h
   ·rename_i hb;exact⟨Nat.eq_of_beq_eq_true hb,(Option.some.inj h).symm⟩
   ·cases h
  obtain⟨rfl,rfl⟩:=hk;have eb:φ.ρ.blk 5=B:=by rw[hφ];rfl
  have eo:φ.ρ.off 5=O+i*3:=by rw[hφ];rfl
  have v6:VR φ (sv iv .i64 6) (.int .i64 (xs.getD i (0,0,0)).1):=by have:=d8g (φ:=φ) (iv:=iv) (by rw[hφ];exact h1) .i64 6;rw[hφ]at this;exact this
  rw[eb,eo];refine⟨g2,fun j x hx=> ?_⟩
  match j with
  |0=>cases hx;exact⟨_,g3,v6⟩
  |1=>cases hx;exact⟨_,g4,by simp only[si,VR,hφ];rfl⟩
  |2=>cases hx;exact⟨_,g5,by simp only[si,VR,hφ];rfl⟩
  |j+3=>simp at hx
 ·exact c7F h1 h2 φ hφ
def d3z(t c:Int)(xs:List Ins)(i:Nat):Bool:=isGo (a2V b3d (b4P t c xs i))
def a7y(t c:Int)(xs:List Ins):Int:=if t<0∨2<t∨c<0∨40<c then 2 else if 32<xs.length then 3 else if c3M (d3z t c xs) xs.length 0=true then 0 else 9
theorem b1N:0≤a7y t c xs∧a7y t c xs≤1000:=by
 unfold a7y
 repeat' split
 all_goals omega
theorem c4Y:b9i (d4A 1 4 9) b3d=true:=by kernel_rfl
theorem d4j:a4s 2 3 2 4 0 ccC=true:=by kernel_rfl
theorem d7b(t0:TrX Leaf)(h:t0= .cut 0 (-1) (.leaf (.ret (.int .i64 (2)))) (.cut 0 (2) (.cut 1 (-1) (.leaf (.ret (.int .i64 (2)))) (.cut 1 (40) (.cut 2 (32) (.leaf (.goto 1 [(.int .i64 (0))])) (.leaf (.ret (.int .i64 (3))))) (.leaf (.ret (.int .i64 (2)))))) (.leaf (.ret (.int .i64 (2)))))):
  a2V t0 (b4P t c xs 0)=if t<0∨2<t∨c<0∨40<c then .ret (.int .i64 2)else if 32<xs.length then .ret (.int .i64 3)else .goto 1 [.int .i64 0]:=by
 subst h;simp only[a2V,b4P]
 by_cases h1:t≤ -1
 ·rw[if_pos h1,if_pos (by omega)]
 ·rw[if_neg h1]
  by_cases h2:t≤2
  ·rw[if_pos h2]
   by_cases h3:c≤ -1
   ·rw[if_pos h3,if_pos (by omega)]
   ·rw[if_neg h3]
    by_cases h4:c≤40
    ·rw[if_pos h4,if_neg (c:=t<0∨2<t∨c<0∨40<c) (by omega)]
     by_cases h5:(xs.length:Int)≤32
     ·rw[if_pos h5,if_neg (by omega)]
     ·rw[if_neg h5,if_pos (by omega)]
    ·rw[if_neg h4,if_pos (by omega)]
  ·rw[if_neg h2,if_pos (by omega)]
theorem rd4{C:List CutP}{c0 c1:CutP}{L:TrX Leaf}(hC0:a0H C 0=some c0)(hC1:a0H C 1=some c1)(h0: ∀t c xs,a2V c0.tr (b4P t c xs 0)=if t<0∨2<t∨c<0∨40<c then .ret (.int .i64 2)else if 32<xs.length then .ret (.int .i64 3)else .goto 1 [.int .i64 0])(h1:c1.tr= .rel .i64 3 2 L (.leaf (.ret (.int .i64 0))))
  (hL:b9i (d4A 1 4 9) L=true) (hg:In4 t c xs→ ∀i,i<xs.length→isGo (a2V L (b4P t c xs i))=d3z t c xs i):Rd C (b4P t c xs) (fun p _=>p=0∨In4 t c xs) 0 0 (.int .i64 (a7y t c xs)):=by
 have e0:=h0 t c xs;unfold a7y
 by_cases k1:t<0∨2<t∨c<0∨40<c
 ·rw[if_pos k1]at e0;rw[if_pos k1];exact .ret hC0 (.inl rfl) e0
 ·rw[if_neg k1]at e0;rw[if_neg k1]
  by_cases k2:32<xs.length
  ·rw[if_pos k2]at e0;rw[if_pos k2];exact .ret hC0 (.inl rfl) e0
  ·rw[if_neg k2]at e0;rw[if_neg k2];have hin:In4 t c xs:=⟨by omega,by omega,by omega,by omega,by omega⟩
   have s:=a5S (v:=b4P t c xs) (n:=xs.length) (g:=d3z t c xs) (rB:=.int .i64 9) (rG:=.int .i64 0) (I:=fun p _=>p=0∨In4 t c xs) hC1 (j:=4) (k:=.i64) (fun i _=>.inr hin) (fun i hi=>by
    rw[h1];simp only[a2V];rw[if_pos (show b4P t c xs i 3<b4P t c xs i 2 by show(i:Int)<(xs.length:Int);omega)];rw[←hg hin i hi]
    exact c0l (a2h hL)) (.ret hC1 (.inr hin) (by
    rw[h1];simp only[a2V]
    rw[if_neg (show¬b4P t c xs xs.length 3<b4P t c xs xs.length 2 by show¬(xs.length:Int)<(xs.length:Int);omega)])) xs.length 0 (by omega)
   refine .zero hC0 (.inl rfl) e0 ?_;split<;>rename_i hs<;>simp only[hs]at s<;>exact s
theorem d8K(i j:Nat):agree 3 (c2n oa cap B O t c xs i) (c2n oa cap B O t c xs j):=fun k hk=>by
 match k,hk with
 |0,_=>exact⟨rfl,rfl,rfl,rfl,rfl⟩
 |1,_=>exact⟨rfl,rfl,rfl,rfl,rfl⟩
 |2,_=>exact⟨rfl,rfl,rfl,rfl,rfl⟩
theorem e2D:VRs ⟨fun _=>none,c2n oa cap B O t c xs 0⟩ [.sym 0,si 0,si 1] [.slice oa xs.length cap,.int .i64 t,.int .i64 c]:=by simp only[VRs,VR,si];exact⟨_,_,rfl,rfl,_,_,rfl,rfl,_,_,rfl,rfl,rfl⟩
theorem e1s(hL:Lst w oa B O xs)(ht:I64 t)(hc:I64 c)(hn:(xs.length:Int)≤9223372036854775807):
  Calls Try.prog 83 #[.slice oa xs.length cap,.int .i64 t,.int .i64 c] w fun e w'=>e= .returned (.int .i64 (a7y t c xs))∧Below w.heap.size w w':=by
 refine a4d (KT:=d9m) d8B Try.func83 (by kernel_rfl) (args:=[.sym 0,si 0,si 1]) (by kernel_rfl) (c0:=d5Z) rfl rfl (by kernel_rfl) rfl rfl (I:=fun p _=>p=0∨In4 t c xs) (n:=xs.length) (rho:=c2n oa cap B O t c xs) d4j rfl (fun i=>rfl) (fun i=>rfl) (fun i hi=>if_pos hi)
  (fun p c hp h0 i j=> ?_) (fun i hi e he=>by cases he) (fun p c hp i hi hI=> ?_) (fun ρ=>rfl) (rd4 (C:=ccC) (c0:=d5Z) (c1:=a5F) rfl rfl (fun t c xs=>d7b _ rfl) rfl c4Y (fun _ i _=>rfl)) e2D
 ·match p,hp,h0 with
  |1,hp,_=>cases hp;exact d8K i j
 ·match p,hp with
  |0,hp=>cases hp;exact⟨e4f hL ht hc hn hi,fun iv fs=>c7F⟩
  |1,hp=>
   cases hp;rcases hI with h|hin
   ·cases h
   ·exact⟨e3M hL hin hi,fun iv fs=>c9s hL hn⟩
end
structure Ab where
 kind:Int
 event:Int
 who:Int
 c0:Int
 c1:Int
 c2:Int
 c3:Int
 tap:Bool
 tg:List Int
 code:List Ins
 op:Int
 a:Int
 b:Int
def Ab.zero:Ab:=⟨0,0,0,0,0,0,0,false,[],[],0,0,0⟩
structure Ab.Fits(x:Ab):Prop where
 ints: ∀z∈ [x.kind,x.event,x.who,x.c0,x.c1,x.c2,x.c3,x.op,x.a,x.b],I64 z
 tg: ∀z∈x.tg,I64 z
 tl:(x.tg.length:Int)≤9223372036854775807
 cl:(x.code.length:Int)≤9223372036854775807
structure Cx where
 name:ByteArray
 kind:Int
 c0:Int
 c1:Int
 c2:Int
 c3:Int
 color:Int
 power:Int
 tough:Int
 keys:Int
 abs:List Ab
 oa:Option Addr
 cap:Nat
 B:Nat
 O:Nat
 ta:Nat→Option Addr
 tc:Nat→Nat
 tB:Nat→Nat
 tO:Nat→Nat
 ca:Nat→Option Addr
 cc:Nat→Nat
 cB:Nat→Nat
 cO:Nat→Nat
def Cx.ab(D:Cx)(i:Nat):Ab:=D.abs.getD i Ab.zero
def Cx.v(D:Cx)(n:Int)(i:Nat):Nat→Int
 |0=>n|1=>D.kind|2=>D.c0|3=>D.c1|4=>D.c2|5=>D.c3|6=>D.color|7=>D.power|8=>D.tough|9=>D.keys|10=>D.name.size|11=>D.abs.length|12=>i
 |13=>if i<D.abs.length then i+1 else 1
 |14=>(D.ab i).kind|15=>(D.ab i).event|16=>(D.ab i).who|17=>(D.ab i).c0|18=>(D.ab i).c1|19=>(D.ab i).c2|20=>(D.ab i).c3
 |21=>if(D.ab i).tap=true then 1 else 0
 |22=>(D.ab i).tg.length|23=>(D.ab i).code.length|24=>(D.ab i).op|25=>(D.ab i).a|26=>(D.ab i).b|27=>(D.ab i).tg.getD 0 0|28=>(D.ab i).tg.getD 1 0|29=>a7y ((D.ab i).tg.length:Int) n (D.ab i).code|_=>0
def Cx.vals(D:Cx)(i:Nat):Nat→Value
 |0=>.string D.name|1=>.slice D.oa D.abs.length D.cap|32=>.slice (D.ta i) (D.ab i).tg.length (D.tc i)|33=>.slice (D.ca i) (D.ab i).code.length (D.cc i)|_=>.slice none 0 0
def Cx.rho(D:Cx)(n:Int)(i:Nat):Rho:=
 ⟨D.v n i,D.vals i,fun k=>if k=30 then D.B else if k=31 then D.tB i else 0,fun k=>if k=30 then D.O+i*13 else if k=31 then D.tO i else 0,
  fun k=>by
   unfold Cx.vals
   split<;>rfl,fun _=>[],fun _ _ h=>by cases h⟩
def Cx.cells(D:Cx)(i:Nat):List Value:=[.int .i64 (D.ab i).kind,.int .i64 (D.ab i).event,.int .i64 (D.ab i).who,.int .i64 (D.ab i).c0,.int .i64 (D.ab i).c1,.int .i64 (D.ab i).c2,.int .i64 (D.ab i).c3,.bool (D.ab i).tap,
 .slice (D.ta i) (D.ab i).tg.length (D.tc i),.slice (D.ca i) (D.ab i).code.length (D.cc i),.int .i64 (D.ab i).op,.int .i64 (D.ab i).a,.int .i64 (D.ab i).b]
structure Cx.OK(D:Cx)(w:World):Prop where
 cells: ∀i,i<D.abs.length→D.oa=some ⟨D.B,D.O,none⟩∧D.B<w.heap.size∧ ∀j v,(D.cells i)[j]? =some v→w.cell? ⟨D.B,D.O+i*13+j,none⟩=some v
 tgs: ∀i j,i<D.abs.length→j<(D.ab i).tg.length→D.ta i=some ⟨D.tB i,D.tO i,none⟩∧D.tB i<w.heap.size∧w.cell? ⟨D.tB i,D.tO i+j,none⟩=some (.int .i64 ((D.ab i).tg.getD j 0))
 codes: ∀i,i<D.abs.length→Lst w (D.ca i) (D.cB i) (D.cO i) (D.ab i).code
 ints: ∀z∈ [D.kind,D.c0,D.c1,D.c2,D.c3,D.color,D.power,D.tough,D.keys],I64 z
 nm:(D.name.size:Int)≤9223372036854775807
 len:(D.abs.length:Int)≤9223372036854775807
 abf: ∀x∈D.abs,x.Fits
def Cx.val(D:Cx):Value:=.agg ⟨[.string D.name,.int .i64 D.kind,.int .i64 D.c0,.int .i64 D.c1,.int .i64 D.c2,.int .i64 D.c3,.int .i64 D.color,.int .i64 D.power,.int .i64 D.tough,.int .i64 D.keys,.slice D.oa D.abs.length D.cap]⟩
theorem c4q:Ab.zero.Fits:=⟨by intro z hz;simp[Ab.zero]at hz;subst hz;exact a2d,(fun z hz=>by cases hz),by decide,by decide⟩
theorem Lst.later{w w':World}{oa:Option Addr}{B O:Nat}{xs:List Ins}(h:Lst w oa B O xs)(hs:w.heap.size≤w'.heap.size)(ho: ∀k,k<w.heap.size→w'.heap[k]? =w.heap[k]?):Lst w' oa B O xs:=by
 refine⟨fun i x hi=> ?_,h.fits⟩;obtain⟨g1,g2,g3,g4,g5⟩:=h.cells i x hi;have e: ∀o,w'.cell? ⟨B,o,none⟩=w.cell? ⟨B,o,none⟩:=fun o=>by simp only[World.cell?,ho B g2]
 exact⟨g1,Nat.lt_of_lt_of_le g2 hs,by rw[e];exact g3,by rw[e];exact g4,by rw[e];exact g5⟩
section
variable{D:Cx}{w:World}{n:Int}{i:Nat}
theorem Cx.OK.later{w':World}(h:D.OK w)(hs:w.heap.size≤w'.heap.size)(ho: ∀k,k<w.heap.size→w'.heap[k]? =w.heap[k]?):D.OK w':=by
 refine⟨fun i hi=> ?_,fun i j hi hj=> ?_,fun i hi=>(h.codes i hi).later hs ho,h.ints,h.nm,h.len,h.abf⟩
 ·obtain⟨g1,g2,g3⟩:=h.cells i hi;have e: ∀o,w'.cell? ⟨D.B,o,none⟩=w.cell? ⟨D.B,o,none⟩:=fun o=>by simp only[World.cell?,ho D.B g2]
  exact⟨g1,Nat.lt_of_lt_of_le g2 hs,fun j v hv=>by rw[e];exact g3 j v hv⟩
 ·obtain⟨g1,g2,g3⟩:=h.tgs i j hi hj;have e: ∀o,w'.cell? ⟨D.tB i,o,none⟩=w.cell? ⟨D.tB i,o,none⟩:=fun o=>by simp only[World.cell?,ho _ g2]
  exact⟨g1,Nat.lt_of_lt_of_le g2 hs,by rw[e];exact g3⟩
theorem Cx.OK.fit(h:D.OK w)(i:Nat):(D.ab i).Fits:=by
 unfold Cx.ab
 by_cases hi:i<D.abs.length
 ·exact h.abf _ (List.mem_of_getElem? (c1M hi))
 ·have e:D.abs.getD i Ab.zero=Ab.zero:=by simp[List.getD_eq_getElem?_getD,List.getElem?_eq_none (by omega:D.abs.length≤i)]
  rw[e];exact c4q
theorem Cx.OK.code(h:D.OK w)(i:Nat):Lst w (D.ca i) (D.cB i) (D.cO i) (D.ab i).code:=by
 by_cases hi:i<D.abs.length
 ·exact h.codes i hi
 ·have e:(D.ab i).code= []:=by
   unfold Cx.ab;simp[List.getD_eq_getElem?_getD,List.getElem?_eq_none (by omega:D.abs.length≤i),Ab.zero]
  rw[e];exact⟨fun i x hx=>by simp at hx,fun x hx=>by cases hx⟩
theorem b8E{l:List Int}(h: ∀z∈l,I64 z)(j:Nat):I64 (l.getD j 0):=by
 by_cases hj:j<l.length
 ·exact h _ (List.mem_of_getElem? (c1M hj))
 ·rw[show l.getD j 0=0 by simp[List.getD_eq_getElem?_getD,List.getElem?_eq_none (by omega:l.length≤j)]];exact a2d
theorem c5D(h:D.OK w)(hn:I64 n)(hi:i≤D.abs.length): ∀k,I64 (D.v n i k):=fun k=>by
 have f:=h.fit i;have hl:=h.len;have h1:=h.ints;have h2:=f.ints
 match k with
 |0=>exact hn
 |1=>exact h1 D.kind (by simp)
 |2=>exact h1 D.c0 (by simp)
 |3=>exact h1 D.c1 (by simp)
 |4=>exact h1 D.c2 (by simp)
 |5=>exact h1 D.c3 (by simp)
 |6=>exact h1 D.color (by simp)
 |7=>exact h1 D.power (by simp)
 |8=>exact h1 D.tough (by simp)
 |9=>exact h1 D.keys (by simp)
 |10=>exact b8A h.nm
 |11=>exact b8A (by omega)
 |12=>exact b8A (by omega)
 |13=>exact⟨by show _≤(if i<D.abs.length then(i:Int)+1 else 1);split<;>omega,by show(if i<D.abs.length then(i:Int)+1 else 1)≤_;split<;>omega⟩
 |14=>exact h2 (D.ab i).kind (by simp)
 |15=>exact h2 (D.ab i).event (by simp)
 |16=>exact h2 (D.ab i).who (by simp)
 |17=>exact h2 (D.ab i).c0 (by simp)
 |18=>exact h2 (D.ab i).c1 (by simp)
 |19=>exact h2 (D.ab i).c2 (by simp)
 |20=>exact h2 (D.ab i).c3 (by simp)
 |21=>show I64 (if(D.ab i).tap=true then 1 else 0);split<;>exact⟨by decide,by decide⟩
 |22=>exact b8A (by have:=f.tl;omega)
 |23=>exact b8A (by have:=f.cl;omega)
 |24=>exact h2 (D.ab i).op (by simp)
 |25=>exact h2 (D.ab i).a (by simp)
 |26=>exact h2 (D.ab i).b (by simp)
 |27=>exact b8E f.tg 0
 |28=>exact b8E f.tg 1
 |29=>have:= @b1N ((D.ab i).tg.length:Int) n (D.ab i).code;exact⟨by show _≤a7y _ _ _;omega,by show a7y _ _ _≤_;omega⟩
 |k+30=>exact a2d
theorem b2U(h:D.OK w)(hn:I64 n)(hi:i≤D.abs.length):IvOK c3X (D.rho n i):=by have f:=c5D h hn hi;have h10:=h.nm;exact b4D (f:=D.v n i) ⟨f 0,f 1,f 2,f 3,f 4,f 5,f 6,f 7,f 8,f 9,⟨by show(0:Int)≤(D.name.size:Int);omega,(f 10).2⟩,⟨by show(0:Int)≤(D.abs.length:Int);omega,(f 11).2⟩,trivial⟩ f
theorem d1A:(0:Int)≤(if(D.ab i).tap=true then 1 else 0)∧(if(D.ab i).tap=true then(1:Int)else 0)≤1:=by split<;>decide
theorem d7P(h:D.OK w)(hn:I64 n)(hi:i≤D.abs.length):IvOK c7r (D.rho n i):=by
 have f:=c5D h hn hi;have h29:= @b1N ((D.ab i).tg.length:Int) n (D.ab i).code
 exact b4D (f:=D.v n i) ⟨f 0,f 1,f 2,f 3,f 4,f 5,f 6,f 7,f 8,f 9,⟨by show(0:Int)≤(D.name.size:Int);omega,(f 10).2⟩,⟨by show(0:Int)≤(D.abs.length:Int);omega,(f 11).2⟩,⟨by show(0:Int)≤(i:Int);omega,(f 12).2⟩,f 13,f 14,f 15,f 16,f 17,f 18,f 19,f 20,d1A,
  ⟨by show(0:Int)≤((D.ab i).tg.length:Int);omega,(f 22).2⟩,⟨by show(0:Int)≤((D.ab i).code.length:Int);omega,(f 23).2⟩,f 24,f 25,f 26,f 27,f 28,h29,trivial⟩ f
theorem c7H(h:D.OK w)(hn:I64 n)(hi:i≤D.abs.length)(ht:(D.ab i).tg.length≤2)(hc:(D.ab i).code.length≤32):IvOK a2T (D.rho n i):=by
 have f:=c5D h hn hi;have h29:= @b1N ((D.ab i).tg.length:Int) n (D.ab i).code
 exact b4D (f:=D.v n i) ⟨f 0,f 1,f 2,f 3,f 4,f 5,f 6,f 7,f 8,f 9,⟨by show(0:Int)≤(D.name.size:Int);omega,(f 10).2⟩,⟨by show(0:Int)≤(D.abs.length:Int);omega,(f 11).2⟩,⟨by show(0:Int)≤(i:Int);omega,(f 12).2⟩,f 13,f 14,f 15,f 16,f 17,f 18,f 19,f 20,d1A,
  ⟨by show(0:Int)≤((D.ab i).tg.length:Int);omega,by show((D.ab i).tg.length:Int)≤2;omega⟩,⟨by show(0:Int)≤((D.ab i).code.length:Int);omega,by show((D.ab i).code.length:Int)≤32;omega⟩,f 24,f 25,f 26,f 27,f 28,h29,trivial⟩ f
theorem c3G:b1H d4z (D.rho n i):=a0P ⟨.string D.name,D.name.size,rfl,⟨_,rfl,rfl⟩,rfl⟩ (a0P (b1V rfl rfl) a1L)
theorem a7g{x:List Fact}(hx:b1H x (D.rho n i)){iv:Ivs}{fs:List Fact}(h1:IvOK iv (D.rho n i))(h2:b1H fs (D.rho n i))(φ:Phi)(hφ:φ.ρ=D.rho n i):EnvP (d1x x iv fs) φ w:=
 ⟨by rw[hφ];exact h1,by rw[hφ];exact fs_app h2 (fs_app hx c3G),fun k cs h=>by cases h⟩
theorem b2V{iv:Ivs}{k:Nat}{z:Int}{ρ:Rho}(h:d3t iv k z=true)(h1:IvOK iv ρ):z≤ρ.int k:=by have:=of_decide_eq_true h;have:=(h1 k).1;omega
theorem d6K(h:D.OK w)(hi:i<D.abs.length){iv:Ivs}(h1:IvOK iv (D.rho n i)):b1H (tgF iv) (D.rho n i):=by
 have at_: ∀j:Nat,(j:Int)+1≤((D.ab i).tg.length:Int)→FactOK (D.rho n i) (.at 1 (.sym 32) (.int .i64 (j:Int)) ⟨.sym 31,j⟩):=fun j hj=>by
  obtain⟨g1,g2,g3⟩:=h.tgs i j hi (by omega);refine⟨⟨D.tB i,D.tO i,none⟩,(D.ab i).tg.length,D.tc i,.i64,j,31, ?_,rfl,rfl,by omega,by omega,rfl,rfl, ?_⟩
  ·show some (Value.slice (D.ta i) _ _)=_;rw[g1]
  ·show D.tO i+j=D.tO i+(j:Int).toNat*1
   simp
 unfold tgF;refine fs_app ?_ ?_
 ·split
  ·rename_i hh;have:=b2V hh h1;exact a0P (at_ 0 (by show(0:Int)+1≤_;exact this)) a1L
  ·exact a1L
 ·split
  ·rename_i hh;have:=b2V hh h1;exact a0P (at_ 1 (by show(1:Int)+1≤_;exact this)) a1L
  ·exact a1L
theorem d2e{iv:Ivs}{φ:Phi}(hφ:φ.ρ=D.rho n i)(h1:IvOK iv (D.rho n i)):VR φ (e0Y iv) (.bool (D.ab i).tap):=by
 have e:(D.rho n i).int 21=if(D.ab i).tap=true then 1 else 0:=rfl
 have h21:=h1 21;rw[e]at h21;unfold e0Y;cases e1:d3t iv 21 1 with
 |true=>
  have:=b2V e1 h1;rw[e]at this;cases ht:(D.ab i).tap with
  |true=>simp only[VR]
  |false=>rw[ht]at this;simp at this
 |false=>cases e2:decide ((a2B iv 21).2≤0)with
  |true=>
   have:=of_decide_eq_true e2;cases ht:(D.ab i).tap with
   |true=>rw[ht]at h21;simp at h21;omega
   |false=>simp only[VR]
  |false=>simp only[VR];rfl
theorem b5o(h:D.OK w){x:List Fact}(hx:b1H x (D.rho n i)){iv:Ivs}{fs:List Fact}(h1:IvOK iv (D.rho n i))(h2:b1H fs (D.rho n i))(φ:Phi)(hφ:φ.ρ=D.rho n i):EnvP (c1T x iv fs) φ w:=by
 unfold c1T;split
 ·rename_i hh;have hi:(i:Int)<(D.abs.length:Int):=b8D w hh h2;have hl:=h.len;obtain⟨g1,g2,g3⟩:=h.cells i (by omega)
  refine⟨by rw[hφ];exact h1,by
   rw[hφ];refine fs_app h2 (fs_app hx (fs_app c3G (fs_app (a0P ?_ (a0P ?_ (a0P (b1V rfl rfl) (a0P (b1V rfl rfl) a1L)))) (d6K h (by omega) h1))))
   ·refine c7R (n:=i) (B:=D.B) (O:=D.O) (l:=D.abs.length) (c:=D.cap) ?_ rfl (by omega) rfl rfl;show some (Value.slice D.oa D.abs.length D.cap)=_;rw[g1]
   ·have e13:D.v n i 13=(i:Int)+1:=by show(if i<D.abs.length then(i:Int)+1 else 1)=_;rw[if_pos (by omega)]
    exact c2g e13 (show -9223372036854775808≤D.v n i 13 by rw[e13];omega) (show D.v n i 13≤9223372036854775807 by rw[e13];omega),fun k cs hk=> ?_⟩
  simp only at hk;split at hk
  ·rename_i hb;have e:=Nat.eq_of_beq_eq_true hb;subst e;obtain rfl:=(Option.some.inj hk).symm;have eb:φ.ρ.blk 30=D.B:=by rw[hφ];rfl
   have eo:φ.ρ.off 30=D.O+i*13:=by rw[hφ];rfl
   rw[eb,eo];refine⟨g2,fun j x hx=> ?_⟩;have v14:VR φ (sv iv .i64 14) (.int .i64 (D.ab i).kind):=by have:=d8g (φ:=φ) (iv:=iv) (by rw[hφ];exact h1) .i64 14;rw[hφ]at this;exact this
   have c:=g3 j
   match j with
   |0=>cases hx;exact⟨_,c _ rfl,v14⟩
   |1=>cases hx;exact⟨_,c _ rfl,by simp only[si,VR,hφ];rfl⟩
   |2=>cases hx;exact⟨_,c _ rfl,by simp only[si,VR,hφ];rfl⟩
   |3=>cases hx;exact⟨_,c _ rfl,by simp only[si,VR,hφ];rfl⟩
   |4=>cases hx;exact⟨_,c _ rfl,by simp only[si,VR,hφ];rfl⟩
   |5=>cases hx;exact⟨_,c _ rfl,by simp only[si,VR,hφ];rfl⟩
   |6=>cases hx;exact⟨_,c _ rfl,by simp only[si,VR,hφ];rfl⟩
   |7=>cases hx;exact⟨_,c _ rfl,d2e hφ h1⟩
   |8=>cases hx;exact⟨_,c _ rfl,by simp only[VR,hφ];rfl⟩
   |9=>cases hx;exact⟨_,c _ rfl,by simp only[VR,hφ];rfl⟩
   |10=>cases hx;exact⟨_,c _ rfl,by simp only[si,VR,hφ];rfl⟩
   |11=>cases hx;exact⟨_,c _ rfl,by simp only[si,VR,hφ];rfl⟩
   |12=>cases hx;exact⟨_,c _ rfl,by simp only[si,VR,hφ];rfl⟩
   |j+13=>simp[d1h]at hx
  ·split at hk
   ·rename_i hb h22;have e:=Nat.eq_of_beq_eq_true hb;subst e;obtain rfl:=(Option.some.inj hk).symm;have eb:φ.ρ.blk 31=D.tB i:=by rw[hφ];rfl
    have eo:φ.ρ.off 31=D.tO i:=by rw[hφ];rfl
    rw[eb,eo];have l1:(1:Int)≤((D.ab i).tg.length:Int):=b2V h22 h1;obtain⟨t1,t2,t3⟩:=h.tgs i 0 (by omega) (by omega);refine⟨t2,fun j x hx=> ?_⟩
    match j with
    |0=>
     have:x=si 27:=by split at hx<;>cases hx<;>rfl
     subst this;exact⟨_,t3,by simp only[si,VR,hφ];rfl⟩
    |1=>
     split at hx
     ·rename_i h2;cases hx;have l2:(2:Int)≤((D.ab i).tg.length:Int):=b2V h2 h1;obtain⟨_,_,u3⟩:=h.tgs i 1 (by omega) (by omega);exact⟨_,u3,by simp only[si,VR,hφ];rfl⟩
     ·simp at hx
    |j+2=>split at hx<;>simp at hx
   ·cases hk
 ·exact a7g hx h1 h2 φ hφ
end
section
variable{D:Cx}{w:World}{n:Int}{i:Nat}
theorem c7l(i j:Nat):agree 12 (D.rho n i) (D.rho n j):=fun k hk=>by
 match k,hk with
 |0,_=>exact⟨rfl,rfl,rfl,rfl,rfl⟩
 |1,_=>exact⟨rfl,rfl,rfl,rfl,rfl⟩
 |2,_=>exact⟨rfl,rfl,rfl,rfl,rfl⟩
 |3,_=>exact⟨rfl,rfl,rfl,rfl,rfl⟩
 |4,_=>exact⟨rfl,rfl,rfl,rfl,rfl⟩
 |5,_=>exact⟨rfl,rfl,rfl,rfl,rfl⟩
 |6,_=>exact⟨rfl,rfl,rfl,rfl,rfl⟩
 |7,_=>exact⟨rfl,rfl,rfl,rfl,rfl⟩
 |8,_=>exact⟨rfl,rfl,rfl,rfl,rfl⟩
 |9,_=>exact⟨rfl,rfl,rfl,rfl,rfl⟩
 |10,_=>exact⟨rfl,rfl,rfl,rfl,rfl⟩
 |11,_=>exact⟨rfl,rfl,rfl,rfl,rfl⟩
theorem c7k{φ:Phi}(hφ:φ.ρ=D.rho n i):VRs φ [a9e] [D.val]:=by simp only[VRs,VR,a9e,si,Cx.val,hφ];exact⟨_,_,rfl,⟨_,⟨_,_,rfl,rfl,_,_,rfl,rfl,_,_,rfl,rfl,_,_,rfl,rfl,_,_,rfl,rfl,_,_,rfl,rfl,_,_,rfl,rfl,_,_,rfl,rfl,_,_,rfl,rfl,_,_,rfl,rfl,_,_,rfl,rfl,rfl⟩,rfl⟩,rfl⟩
theorem b4O{φ:Phi}(hφ:φ.ρ=D.rho n i){vs:List Value}(h:VRs φ [a9e] vs):vs= [D.val]:=by simp only[VRs,VR,a9e,si,hφ]at h;obtain⟨_,_,rfl,⟨_,⟨_,_,rfl,rfl,_,_,rfl,rfl,_,_,rfl,rfl,_,_,rfl,rfl,_,_,rfl,rfl,_,_,rfl,rfl,_,_,rfl,rfl,_,_,rfl,rfl,_,_,rfl,rfl,_,_,rfl,rfl,_,_,rfl,rfl,rfl⟩,rfl⟩,rfl⟩:=h;rfl
def Cx.fine(D:Cx)(i:Nat):Bool:=decide ((D.ab i).tg.length≤2)&&decide ((D.ab i).code.length≤32)
def Cx.isLong(D:Cx):Bool:= !(c3M D.fine D.abs.length 0&&(decide (D.name.size≤16)&&decide (D.abs.length≤4)))
theorem d4e:a4s 2 12 11 13 0 clC=true:=by kernel_rfl
theorem c2d:D.fine i=true↔((D.ab i).tg.length:Int)≤2∧((D.ab i).code.length:Int)≤32:=by simp only[Cx.fine,Bool.and_eq_true,decide_eq_true_eq];omega
theorem c6o(t:TrX Leaf)(a b:Leaf)(ht:t= .cut 22 (2) (.cut 23 (32) (.leaf a) (.leaf b)) (.leaf b)):a2V t (D.v n i)=if D.fine i=true then a else b:=by
 subst ht;simp only[a2V];have e22:D.v n i 22=((D.ab i).tg.length:Int):=rfl;have e23:D.v n i 23=((D.ab i).code.length:Int):=rfl;rw[e22,e23]
 by_cases h:D.fine i=true
 ·obtain⟨h1,h2⟩:=c2d.1 h;rw[if_pos h,if_pos h1,if_pos h2]
 ·rw[if_neg h];have:=mt c2d.2 h
  by_cases h1:((D.ab i).tg.length:Int)≤2
  ·rw[if_pos h1,if_neg (fun h2=>this ⟨h1,h2⟩)]
  ·rw[if_neg h1]
theorem c5l{L R:TrX Leaf}{k:IntKind}(hi:i<D.abs.length):a2V (.rel k 12 11 L R) (D.v n i)=a2V L (D.v n i):=by simp only[a2V];rw[if_pos (show D.v n i 12<D.v n i 11 by show(i:Int)<(D.abs.length:Int);omega)]
theorem c0D{L R:TrX Leaf}{k:IntKind}:a2V (.rel k 12 11 L R) (D.v n D.abs.length)=a2V R (D.v n D.abs.length):=by simp only[a2V];rw[if_neg (show¬D.v n D.abs.length 12<D.v n D.abs.length 11 by show¬(D.abs.length:Int)<(D.abs.length:Int);omega)]
theorem b6d:(decide (D.name.size≤16)&&decide (D.abs.length≤4))=true↔(D.name.size:Int)≤16∧(D.abs.length:Int)≤4:=by simp only[Bool.and_eq_true,decide_eq_true_eq];omega
theorem c9o(t:TrX Leaf)(a b:Leaf)(ht:t= .cut 10 (16) (.cut 11 (4) (.leaf a) (.leaf b)) (.leaf b)):a2V t (D.v n i)=if(decide (D.name.size≤16)&&decide (D.abs.length≤4))=true then a else b:=by
 subst ht;simp only[a2V];have e10:D.v n i 10=(D.name.size:Int):=rfl;have e11:D.v n i 11=(D.abs.length:Int):=rfl;rw[e10,e11]
 by_cases h:(decide (D.name.size≤16)&&decide (D.abs.length≤4))=true
 ·obtain⟨h1,h2⟩:=b6d.1 h;rw[if_pos h,if_pos h1,if_pos h2]
 ·rw[if_neg h];have:=mt b6d.2 h
  by_cases h1:(D.name.size:Int)≤16
  ·rw[if_pos h1,if_neg (fun h2=>this ⟨h1,h2⟩)]
  ·rw[if_neg h1]
theorem e1R(h:D.OK w):Calls Try.prog 40 #[D.val] w fun e w'=>e= .returned (.bool D.isLong)∧Below w.heap.size w w':=by
 have hr:Rd clC (D.v 0) (fun _ _=>True) 0 0 (.bool D.isLong):=by
  refine .zero (c:=d9i) (q:=1) (k:=.i64) (z:=0) rfl trivial rfl ?_
  have s:=a5S (C:=clC) (v:=D.v 0) (I:=fun _ _=>True) (p:=1) (n:=D.abs.length) (j:=13) (k:=.i64) (c:=d5Y) (g:=D.fine) (rB:=.bool true) (rG:=.bool !(decide (D.name.size≤16)&&decide (D.abs.length≤4))) rfl (fun _ _=>trivial)
   (fun i hi=>(c5l hi).trans (c6o _ _ _ rfl)) (.ret (c:=d5Y) rfl trivial ((c0D).trans ((c9o _ _ _ rfl).trans (by split<;>rename_i hs<;>simp only[hs]<;>rfl)))) D.abs.length 0 (by omega)
  unfold Cx.isLong;cases ha:c3M D.fine D.abs.length 0 with
  |true=>rw[ha]at s;simpa using s
  |false=>rw[ha]at s;simpa using s
 refine a4d (KT:=d9j) d7p Try.func40 (by kernel_rfl) (args:=[a9e]) (by kernel_rfl) (c0:=d9i) rfl rfl (by kernel_rfl) rfl rfl (I:=fun _ _=>True) (n:=D.abs.length) (rho:=D.rho 0) d4e rfl (fun i=>rfl) (fun i=>rfl) (fun i hi=>if_pos hi)
  (fun p c hp h0 i j=> ?_) (fun i hi e he=>by cases he) (fun p c hp i hi _=> ?_) (fun ρ=>rfl) hr (c7k rfl)
 ·match p,hp,h0 with
  |1,hp,_=>cases hp;exact c7l i j
 ·match p,hp with
  |0,hp=>cases hp;exact⟨b2U h a2d hi,fun iv fs=>a7g a1L⟩
  |1,hp=>cases hp;exact⟨d7P h a2d hi,fun iv fs=>b5o h a1L⟩
def d3h:Leaf→Bool
 |.ret r=>match r with
  |.bool b=>b|_=>false
 |_=>false
def isB:Leaf→Bool
 |.ret r=>match r with
  |.bool _=>true|_=>false
 |_=>false
theorem d7S{o:Leaf}(h:isB o=true):o= .ret (.bool (d3h o)):=by
 cases o with
 |goto _ _=>simp[isB]at h
 |ret r=>cases r<;>simp[isB]at h;rfl
def Cx.body(D:Cx):Bool:=d3h (a2V d8E (D.v 0 0))
theorem d8I:b9i isB d8E=true:=by kernel_rfl
theorem d4m:a4s 1 12 11 13 0 cbC=true:=by kernel_rfl
theorem e2H(h:D.OK w):Calls Try.prog 41 #[D.val] w fun e w'=>e= .returned (.bool D.body)∧Below w.heap.size w w':=by
 have hr:Rd cbC (D.v 0) (fun _ _=>True) 0 0 (.bool D.body):=.ret (c:=c4n) rfl trivial (d7S (a2h d8I))
 refine a4d (KT:=d9n) d8H Try.func41 (by kernel_rfl) (args:=[a9e]) (by kernel_rfl) (c0:=c4n) rfl rfl (by kernel_rfl) rfl rfl (I:=fun _ _=>True) (n:=D.abs.length) (rho:=D.rho 0) d4m rfl (fun i=>rfl) (fun i=>rfl) (fun i hi=>if_pos hi)
  (fun p c hp h0 i j=> ?_) (fun i hi e he=>by cases he) (fun p c hp i hi _=> ?_) (fun ρ=>rfl) hr (c7k rfl)
 ·match p,hp,h0 with
  |p+1,hp,_=>cases hp
 ·match p,hp with
  |0,hp=>cases hp;exact⟨b2U h a2d hi,fun iv fs=>a7g a1L⟩
end
section
variable{D:Cx}{w:World}{n:Int}{i:Nat}
def Cx.good(D:Cx)(n:Int)(i:Nat):Bool:=isGo (a2V (match decide (D.kind=3)with|true=>c3T|false=>c3U) (D.v n i))
def Cx.spec(D:Cx)(n:Int):Int:=if n<0∨40<n then 2 else if D.isLong=true then 3 else if D.name.size=0∨D.body=false then 10 else if c3M (D.good n) D.abs.length 0=true∧(D.kind=3→D.abs.length=1)then 0 else 10
theorem d2j:0≤D.spec n∧D.spec n≤1000:=by
 unfold Cx.spec
 repeat' split
 all_goals omega
theorem b5B(h:D.isLong=false):(D.name.size≤16∧D.abs.length≤4)∧ ∀i,(D.ab i).tg.length≤2∧(D.ab i).code.length≤32:=by
 unfold Cx.isLong at h;simp only[Bool.not_eq_false',Bool.and_eq_true,decide_eq_true_eq]at h;obtain⟨h1,h2⟩:=h;refine⟨h2,fun i=> ?_⟩
 by_cases hi:i<D.abs.length
 ·have:=b1b.1 h1 i (Nat.zero_le _) (by omega);simpa[Cx.fine]using this
 ·have e:D.ab i=Ab.zero:=by
   unfold Cx.ab;simp[List.getD_eq_getElem?_getD,List.getElem?_eq_none (by omega:D.abs.length≤i)]
  rw[e];simp[Ab.zero]
theorem str_eq(nm:ByteArray){b:Bool}(hb:decide (nm.size=0)=b)(P:Program)(t:TypeId)(w:World):(binOp .eql t (.string nm) (.string .empty)).run P w= .ok (.bool b) w∧(binOp .neq t (.string nm) (.string .empty)).run P w= .ok (.bool (!b)) w:=by
 obtain⟨⟨l⟩⟩:=nm;cases l with
 |nil=>subst hb;have e:(⟨⟨[]⟩⟩:ByteArray)= .empty:=rfl;rw[e];exact⟨by simp[binOp,Op.stringOp],by simp[binOp,Op.stringOp]⟩
 |cons x l=>
  have:b=false:=by rw[←hb];simp[ByteArray.size]
  subst this
  have e:(⟨⟨x::l⟩⟩:ByteArray)≠ .empty:=fun h=>by have:=congrArg ByteArray.size h;simp[ByteArray.size]at this
  exact⟨by simp[binOp,Op.stringOp],by simp[binOp,Op.stringOp]⟩
theorem a8I{b:Bool}(hb:decide (D.name.size=0)=b):b1H (b7X b) (D.rho n i):=
 a0P ⟨.string D.name,.string .empty,.bool b,rfl,rfl,rfl,by simp,by simp,fun P t w=>(str_eq D.name hb P t w).1⟩
  (a0P ⟨.string D.name,.string .empty,.bool (!b),rfl,rfl,rfl,by simp,by simp,fun P t w=>(str_eq D.name hb P t w).2⟩ a1L)
theorem d9d(h:D.OK w){b:Bool}(hb:D.isLong=b):c4j Try.prog (D.rho n i) w ⟨40,[a9e],[],.bool b⟩:=fun φ vs w' hφ hs ho hv _=>by rw[b4O hφ hv];refine(e1R (h.later hs fun k hk=>ho k hk (fun x=>x))).mono ?_;rintro e w'' ⟨rfl,hbl⟩;exact⟨_,rfl,by simp only[VR,hb],hbl⟩
theorem e2z(h:D.OK w){b:Bool}(hb:D.body=b):c4j Try.prog (D.rho n i) w ⟨41,[a9e],[],.bool b⟩:=fun φ vs w' hφ hs ho hv _=>by rw[b4O hφ hv];refine(e2H (h.later hs fun k hk=>ho k hk (fun x=>x))).mono ?_;rintro e w'' ⟨rfl,hbl⟩;exact⟨_,rfl,by simp only[VR,hb],hbl⟩
theorem e4g{φ:Phi}(hφ:φ.ρ=D.rho n i){vs:List Value}(h:VRs φ [.sym 33,si 22,si 0] vs):vs= [.slice (D.ca i) (D.ab i).code.length (D.cc i),.int .i64 ((D.ab i).tg.length:Int),.int .i64 n]:=by simp only[VRs,VR,si,hφ]at h;obtain⟨_,_,rfl,rfl,_,_,rfl,rfl,_,_,rfl,rfl,rfl⟩:=h;rfl
theorem e4Y(h:D.OK w)(hn:I64 n):c4j Try.prog (D.rho n i) w ⟨83,[.sym 33,si 22,si 0],[],si 29⟩:=fun φ vs w' hφ hs ho hv _=>by rw[e4g hφ hv];have f:=h.fit i;refine(e1s ((h.later hs fun k hk=>ho k hk (fun x=>x)).code i) (b8A (by have:=f.tl;omega)) hn f.cl).mono ?_;rintro e w'' ⟨rfl,hbl⟩;exact⟨_,rfl,by simp only[VR,si,hφ];rfl,hbl⟩
theorem c2m:VRs ⟨fun _=>none,D.rho n 0⟩ [a9e,si 0] [D.val,.int .i64 n]:=by have h:=c7k (D:=D) (n:=n) (i:=0) (φ:=⟨fun _=>none,D.rho n 0⟩) rfl;simp only[VRs]at h ⊢;obtain⟨y,ys,e,h1,h2⟩:=h;simp only[List.cons.injEq]at e;obtain⟨rfl,rfl⟩:=e;exact⟨_,_,rfl,h1,_,_,rfl,by simp only[si,VR];rfl,rfl⟩
theorem d2W:a4s 1 12 11 13 0 vaC=true:=by kernel_rfl
theorem d2U:a4s 1 12 11 13 0 vbC=true:=by kernel_rfl
theorem d2T:a4s 1 12 11 13 0 vcC=true:=by kernel_rfl
theorem d2Q:a4s 3 12 11 13 0 vdC=true:=by kernel_rfl
theorem d2S:b9i (d4A 1 13 10) c3U=true:=by kernel_rfl
theorem d2R:b9i (d4A 2 13 10) c3T=true:=by kernel_rfl
theorem e0:D.v n i 0=n:=rfl
theorem e1:D.v n i 1=D.kind:=rfl
theorem e11:D.v n i 11=(D.abs.length:Int):=rfl
theorem e1F(t:TrX Leaf)(z:Int)(ht:t= .cut 0 (-1) (.leaf (.ret (.int .i64 2))) (.cut 0 (40) (.leaf (.ret (.int .i64 z))) (.leaf (.ret (.int .i64 2))))):a2V t (D.v n i)= .ret (.int .i64 (if n<0∨40<n then 2 else z)):=by
 subst ht;simp only[a2V];rw[e0]
 by_cases h1:n≤ -1
 ·rw[if_pos h1,if_pos (by omega)]<;>try rfl
 ·rw[if_neg h1]
  by_cases h2:n≤40
  ·rw[if_pos h2,if_neg (by omega)]<;>try rfl
  ·rw[if_neg h2,if_pos (by omega)]<;>try rfl
theorem d7s(h:D.OK w)(hn:I64 n):Calls Try.prog 23 #[D.val,.int .i64 n] w fun e w'=>e= .returned (.int .i64 (D.spec n))∧Below w.heap.size w w':=by
 cases hl:D.isLong with
 |true=>
  have e:D.spec n=if n<0∨40<n then 2 else 3:=by unfold Cx.spec;rw[if_pos hl]
  rw[e]
  refine a4d (KT:=d6C) d6B Try.func23 (by kernel_rfl) (args:=[a9e,si 0]) (by kernel_rfl) (c0:=d9A) rfl rfl (by kernel_rfl) rfl rfl (I:=fun _ _=>True) (n:=D.abs.length) (rho:=D.rho n) d2W rfl (fun i=>rfl) (fun i=>rfl) (fun i hi=>if_pos hi)
   (fun p c hp h0 i j=> ?_) (fun i hi e he=> ?_) (fun p c hp i hi _=> ?_) (fun ρ=>rfl) (.ret (c:=d9A) rfl trivial (e1F _ 3 rfl)) c2m
  ·match p,hp,h0 with
   |p+1,hp,_=>cases hp
  ·simp only[d6C,List.mem_singleton]at he;subst he;exact d9d h hl
  ·match p,hp with
   |0,hp=>cases hp;exact⟨b2U h hn hi,fun iv fs=>a7g a1L⟩
 |false=>
  obtain⟨hs,hf⟩:=b5B hl;cases hm:decide (D.name.size=0)with
  |true=>
   have e:D.spec n=if n<0∨40<n then 2 else 10:=by unfold Cx.spec;rw[if_neg (c:=D.isLong=true) (by rw[hl];simp),if_pos (c:=D.name.size=0∨D.body=false) (.inl (of_decide_eq_true hm))]
   rw[e]
   refine a4d (KT:=d5z) d5y Try.func23 (by kernel_rfl) (args:=[a9e,si 0]) (by kernel_rfl) (c0:=d8z) rfl rfl (by kernel_rfl) rfl rfl (I:=fun _ _=>True) (n:=D.abs.length) (rho:=D.rho n) d2U rfl (fun i=>rfl) (fun i=>rfl) (fun i hi=>if_pos hi)
    (fun p c hp h0 i j=> ?_) (fun i hi e he=> ?_) (fun p c hp i hi _=> ?_) (fun ρ=>rfl) (.ret (c:=d8z) rfl trivial (e1F _ 10 rfl)) c2m
   ·match p,hp,h0 with
    |p+1,hp,_=>cases hp
   ·simp only[d5z,List.mem_singleton]at he;subst he;exact d9d h hl
   ·match p,hp with
    |0,hp=>cases hp;exact⟨b2U h hn hi,fun iv fs=>a7g (a8I hm)⟩
  |false=>
   have hm':=of_decide_eq_false hm;cases hb:D.body with
   |false=>
    have e:D.spec n=if n<0∨40<n then 2 else 10:=by unfold Cx.spec;rw[if_neg (c:=D.isLong=true) (by rw[hl];simp),if_pos (c:=D.name.size=0∨D.body=false) (.inr hb)]
    rw[e]
    refine a4d (KT:=d5w) d5v Try.func23 (by kernel_rfl) (args:=[a9e,si 0]) (by kernel_rfl) (c0:=d8y) rfl rfl (by kernel_rfl) rfl rfl (I:=fun _ _=>True) (n:=D.abs.length) (rho:=D.rho n) d2T rfl (fun i=>rfl) (fun i=>rfl) (fun i hi=>if_pos hi)
     (fun p c hp h0 i j=> ?_) (fun i hi e he=> ?_) (fun p c hp i hi _=> ?_) (fun ρ=>rfl) (.ret (c:=d8y) rfl trivial (e1F _ 10 rfl)) c2m
    ·match p,hp,h0 with
     |p+1,hp,_=>cases hp
    ·simp only[d5w,List.mem_cons,List.not_mem_nil,or_false]at he;rcases he with rfl|rfl
     ·exact d9d h hl
     ·exact e2z h hb
    ·match p,hp with
     |0,hp=>cases hp;exact⟨b2U h hn hi,fun iv fs=>a7g (a8I hm)⟩
   |true=>
    have e:D.spec n=if n<0∨40<n then 2 else if c3M (D.good n) D.abs.length 0=true∧(D.kind=3→D.abs.length=1)then 0 else 10:=by unfold Cx.spec;rw[if_neg (c:=D.isLong=true) (by rw[hl];simp),if_neg (c:=D.name.size=0∨D.body=false) (by rw[hb];rintro(h|h);exact hm' h;cases h)]
    rw[e]
    have hr:Rd vdC (D.v n) (fun _ _=>True) 0 0 (.int .i64 (if n<0∨40<n then 2 else if c3M (D.good n) D.abs.length 0=true∧(D.kind=3→D.abs.length=1)then 0 else 10)):=by
     have ent:a2V d8x (D.v n 0)=if n<0∨40<n then .ret (.int .i64 2)else if D.kind=3 then .goto 2 [.int .i64 0]else .goto 1 [.int .i64 0]:=by
      simp only[d8x,d2L,d2K,a2V];rw[e0,e1]
      by_cases h1:n≤ -1
      ·rw[if_pos h1,if_pos (by omega)]<;>try rfl
      ·rw[if_neg h1]
       by_cases h2:n≤40
       ·rw[if_pos h2,if_neg (c:=n<0∨40<n) (by omega)]<;>try rfl
        by_cases h3:D.kind≤2
        ·rw[if_pos h3,if_neg (by omega)]<;>try rfl
        ·rw[if_neg h3]
         by_cases h4:D.kind≤3
         ·rw[if_pos h4,if_pos (by omega)]<;>try rfl
         ·rw[if_neg h4,if_neg (by omega)]<;>try rfl
       ·rw[if_neg h2,if_pos (by omega)]<;>try rfl
     by_cases k1:n<0∨40<n
     ·rw[if_pos k1]at ent ⊢;exact .ret (c:=d0s) rfl trivial ent
     ·rw[if_neg k1]at ent ⊢
      by_cases k3:D.kind=3
      ·rw[if_pos k3]at ent;refine .zero (c:=d0s) rfl trivial ent ?_
       have s:=a5S (C:=vdC) (v:=D.v n) (I:=fun _ _=>True) (p:=2) (n:=D.abs.length) (j:=13) (k:=.i64) (c:=d5L) (g:=D.good n) (rB:=.int .i64 10) (rG:=.int .i64 (if D.abs.length=1 then 0 else 10)) rfl (fun _ _=>trivial)
        (fun i hi=>(c5l hi).trans (by
         have:=c0l (a2h d2R (v:=D.v n i));unfold Cx.good;rw[decide_eq_true k3]
         exact this)) (.ret (c:=d5L) rfl trivial ((c0D).trans (by
         simp only[d2J,a2V];rw[e11]
         by_cases g1:(D.abs.length:Int)≤0
         ·rw[if_pos g1,if_neg (by omega)]<;>try rfl
         ·rw[if_neg g1]
          by_cases g2:(D.abs.length:Int)≤1
          ·rw[if_pos g2,if_pos (by omega)]<;>try rfl
          ·rw[if_neg g2,if_neg (by omega)]<;>try rfl))) D.abs.length 0 (by omega)
       cases ha:c3M (D.good n) D.abs.length 0 with
       |true=>rw[ha]at s;simp only[if_true]at s;simp only[k3,true_and,forall_const];exact s
       |false=>rw[ha]at s;simpa using s
      ·rw[if_neg k3]at ent;refine .zero (c:=d0s) rfl trivial ent ?_
       have s:=a5S (C:=vdC) (v:=D.v n) (I:=fun _ _=>True) (p:=1) (n:=D.abs.length) (j:=13) (k:=.i64) (c:=a8v) (g:=D.good n) (rB:=.int .i64 10) (rG:=.int .i64 0) rfl (fun _ _=>trivial)
        (fun i hi=>(c5l hi).trans (by
         have:=c0l (a2h d2S (v:=D.v n i));unfold Cx.good;rw[decide_eq_false k3]
         exact this)) (.ret (c:=a8v) rfl trivial c0D) D.abs.length 0 (by omega)
       cases ha:c3M (D.good n) D.abs.length 0 with
       |true=>rw[ha]at s;simp only[if_true]at s;simp only[k3,false_implies,and_true,if_true];exact s
       |false=>rw[ha]at s;simpa using s
    refine a4d (KT:=d5t) d5s Try.func23 (by kernel_rfl) (args:=[a9e,si 0]) (by kernel_rfl) (c0:=d0s) rfl rfl (by kernel_rfl) rfl rfl (I:=fun _ _=>True) (n:=D.abs.length) (rho:=D.rho n) d2Q rfl (fun i=>rfl) (fun i=>rfl) (fun i hi=>if_pos hi)
     (fun p c hp h0 i j=> ?_) (fun i hi e he=> ?_) (fun p c hp i hi _=> ?_) (fun ρ=>rfl) hr c2m
    ·match p,hp,h0 with
     |1,hp,_=>cases hp;exact c7l i j
     |2,hp,_=>cases hp;exact c7l i j
    ·simp only[d5t,List.mem_cons,List.not_mem_nil,or_false]at he;rcases he with rfl|rfl|rfl
     ·exact d9d h hl
     ·exact e2z h hb
     ·exact e4Y h hn
    ·match p,hp with
     |0,hp=>cases hp;exact⟨b2U h hn hi,fun iv fs=>a7g (a8I hm)⟩
     |1,hp=>cases hp;exact⟨c7H h hn hi (hf i).1 (hf i).2,fun iv fs=>b5o h (a8I hm)⟩
     |2,hp=>cases hp;exact⟨c7H h hn hi (hf i).1 (hf i).2,fun iv fs=>b5o h (a8I hm)⟩
end
section
variable{D:Cx}{w:World}{n:Int}{i:Nat}
end
end
end Go.Proofs.Ytmmmknhdigapkaa.plq
