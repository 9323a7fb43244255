/-
  Contracts: which codes and which cards may be, as the program's functions and the document's tell it.
-/
import Derived.Test.YtmmmknhdigapkaaTxA
import Derived.Test.YtmmmknhdigapkaaEv4
namespace Go.Proofs.Ytmmmknhdigapkaa.plq
open Go.Ev Go.RowKit
set_option linter.unusedVariables false
noncomputable section
abbrev Ins:=Int×Int×Int
def I64(x:Int):Prop:= -9223372036854775808≤x∧x≤9223372036854775807
theorem a2T:I64 0:=⟨by decide,by decide⟩
theorem b5I{n:Nat}(h:(n:Int)≤9223372036854775807):I64 (n:Int):=⟨by omega,h⟩
structure Lst(w:World)(oa:Option Addr)(B O:Nat)(xs:List Ins):Prop where
 cells: ∀(i:Nat) (x:Ins),xs[i]? =some x→oa=some ⟨B,O,none⟩∧B<w.heap.size∧w.cell? ⟨B,O+i*3,none⟩=some (.int .i64 x.1)∧w.cell? ⟨B,O+i*3+1,none⟩=some (.int .i64 x.2.1)∧w.cell? ⟨B,O+i*3+2,none⟩=some (.int .i64 x.2.2)
 fits: ∀x∈xs,I64 x.1∧I64 x.2.1∧I64 x.2.2
theorem b7r{α:Type}{xs:List α}{i:Nat}{d:α}(h:i<xs.length):xs[i]? =some (xs.getD i d):=by
 simp[List.getD_eq_getElem?_getD,h]
theorem Lst.fit{w:World}{oa:Option Addr}{B O:Nat}{xs:List Ins}(h:Lst w oa B O xs)(i:Nat):I64 (xs.getD i (0,0,0)).1∧I64 (xs.getD i (0,0,0)).2.1∧I64 (xs.getD i (0,0,0)).2.2:=by
 by_cases hi:i<xs.length
 ·exact h.fits _ (List.mem_of_getElem? (b7r hi))
 ·have e:xs.getD i (0,0,0)=(0,0,0):=by simp[List.getD_eq_getElem?_getD,List.getElem?_eq_none (by omega:xs.length≤i)]
  rw[e]
  exact⟨a2T,a2T,a2T⟩
def b2s(t c:Int)(xs:List Ins)(i:Nat):Nat→Int
 |0=>t
 |1=>c
 |2=>xs.length
 |3=>i
 |4=>if i<xs.length then i+1 else 1
 |6=>(xs.getD i (0,0,0)).1
 |7=>(xs.getD i (0,0,0)).2.1
 |8=>(xs.getD i (0,0,0)).2.2
 |_=>0
def b9h(oa:Option Addr)(cap B O:Nat)(t c:Int)(xs:List Ins)(i:Nat):Rho:=
 ⟨b2s t c xs i,fun _=>.slice oa xs.length cap,fun _=>B,fun k=>if k=5 then O+i*3 else 0,fun _=>rfl,fun _=>[],fun _ _ h=>by cases h⟩
section
variable{w:World}{oa:Option Addr}{cap B O:Nat}{t c:Int}{xs:List Ins}{i:Nat}
theorem b7g(hL:Lst w oa B O xs)(ht:I64 t)(hc:I64 c)(hn:(xs.length:Int)≤9223372036854775807)(hi:i≤xs.length): ∀k,I64 (b2s t c xs i k):=fun k=>by
 obtain⟨f1,f2,f3⟩:=hL.fit i
 match k with
 |0=>exact ht
 |1=>exact hc
 |2=>exact b5I (by omega)
 |3=>exact b5I (by omega)
 |4=>exact⟨by show _≤(if i<xs.length then(i:Int)+1 else 1);split<;>omega,by show(if i<xs.length then(i:Int)+1 else 1)≤_;split<;>omega⟩
 |5=>exact a2T
 |6=>exact f1
 |7=>exact f2
 |8=>exact f3
 |k+9=>exact a2T
theorem e2k(hL:Lst w oa B O xs)(ht:I64 t)(hc:I64 c)(hn:(xs.length:Int)≤9223372036854775807)(hi:i≤xs.length):IvOK [(-9223372036854775808,9223372036854775807),(-9223372036854775808,9223372036854775807),(0,9223372036854775807)] (b9h oa cap B O t c xs i):=
 b3u (f:=b2s t c xs i) ⟨ht,hc,⟨by show(0:Int)≤(xs.length:Int);omega,by show(xs.length:Int)≤_;omega⟩,trivial⟩ (b7g hL ht hc hn hi)
structure In4(t c:Int)(xs:List Ins):Prop where
 t0:0≤t
 t2:t≤2
 c0:0≤c
 c40:c≤40
 n32:xs.length≤32
theorem d7o(hL:Lst w oa B O xs)(hin:In4 t c xs)(hi:i≤xs.length):IvOK [(0,2),(0,40),(0,32),(0,32),(1,33),(-9223372036854775808,9223372036854775807),(-9223372036854775808,9223372036854775807),(-9223372036854775808,9223372036854775807),(-9223372036854775808,9223372036854775807)] (b9h oa cap B O t c xs i):=by
 obtain⟨h1,h2,h3,h4,h5⟩:=hin
 have f:=b7g hL (t:=t) (c:=c) ⟨by omega,by omega⟩ ⟨by omega,by omega⟩ (by omega) hi
 exact b3u (f:=b2s t c xs i) ⟨⟨h1,h2⟩,⟨h3,h4⟩,⟨by show(0:Int)≤(xs.length:Int);omega,by show(xs.length:Int)≤_;omega⟩,⟨by show 0≤(i:Int);omega,by show(i:Int)≤_;omega⟩,⟨by show 1≤(if i<xs.length then(i:Int)+1 else 1);split<;>omega,by show(if i<xs.length then(i:Int)+1 else 1)≤_;split<;>omega⟩,f 5,f 6,f 7,f 8,trivial⟩ f
theorem b7N(w:World){fs:List Fact}{a b:Nat}{ρ:Rho}(h:c1D fs a b=true)(k:b0j fs ρ):ρ.int a<ρ.int b:=by
 unfold c1D at h
 rw[List.any_eq_true]at h
 obtain⟨f,hf,hh⟩:=h
 split at hh
 ·rename_i k1 x k2 y
  simp only[Bool.and_eq_true]at hh
  have e1:=Nat.eq_of_beq_eq_true hh.1
  have e2:=Nat.eq_of_beq_eq_true hh.2
  subst e1 e2
  exact d5l Try.prog w (k _ hf)
 ·cases hh
theorem c1P:b0j codeF (b9h oa cap B O t c xs i):=a0F (b0x rfl rfl) a0b
theorem b9G{iv:Ivs}{fs:List Fact}(h1:IvOK iv (b9h oa cap B O t c xs i))(h2:b0j fs (b9h oa cap B O t c xs i))(φ:Phi)(hφ:φ.ρ=b9h oa cap B O t c xs i):EnvP (d7s iv fs) φ w:=
 ⟨by rw[hφ];exact h1,by rw[hφ];exact fs_app h2 c1P,fun k cs h=>by cases h⟩
theorem c0x(hL:Lst w oa B O xs)(hn:(xs.length:Int)≤9223372036854775807){iv:Ivs}{fs:List Fact}(h1:IvOK iv (b9h oa cap B O t c xs i))(h2:b0j fs (b9h oa cap B O t c xs i))(φ:Phi)(hφ:φ.ρ=b9h oa cap B O t c xs i):EnvP (c3F iv fs) φ w:=by
 unfold c3F
 split
 ·rename_i hh
  have hi:(i:Int)<(xs.length:Int):=b7N w hh h2
  obtain⟨g1,g2,g3,g4,g5⟩:=hL.cells i _ (b7r (d:=(0,0,0)) (by omega))
  refine⟨by rw[hφ];exact h1,by
   rw[hφ]
   refine fs_app h2 (fs_app c1P (a0F ?_ (a0F ?_ a0b)))
   ·refine c5X (n:=i) (B:=B) (O:=O) (l:=xs.length) (c:=cap) ?_ rfl (by omega) rfl rfl
    show some (Value.slice oa xs.length cap)=_
    rw[g1]
   ·have e4:b2s t c xs i 4=(i:Int)+1:=by show(if i<xs.length then(i:Int)+1 else 1)=_;rw[if_pos (by omega)]
    exact c1L e4 (show -9223372036854775808≤b2s t c xs i 4 by rw[e4];omega) (show b2s t c xs i 4≤9223372036854775807 by rw[e4];omega),fun k cs h=> ?_⟩
  have hk:k=5∧cs= [sv iv .i64 6,si 7,si 8]:=by
   simp only at h
   split at h
   ·rename_i hb
    exact⟨Nat.eq_of_beq_eq_true hb,(Option.some.inj h).symm⟩
   ·cases h
  obtain⟨rfl,rfl⟩:=hk
  have eb:φ.ρ.blk 5=B:=by rw[hφ];rfl
  have eo:φ.ρ.off 5=O+i*3:=by rw[hφ];rfl
  have v6:VR φ (sv iv .i64 6) (.int .i64 (xs.getD i (0,0,0)).1):=by have:=d6n (φ:=φ) (iv:=iv) (by rw[hφ];exact h1) .i64 6;rw[hφ]at this;exact this
  rw[eb,eo]
  refine⟨g2,fun j x hx=> ?_⟩
  match j with
  |0=>cases hx;exact⟨_,g3,v6⟩
  |1=>cases hx;exact⟨_,g4,by simp only[si,VR,hφ];rfl⟩
  |2=>cases hx;exact⟨_,g5,by simp only[si,VR,hφ];rfl⟩
  |j+3=>simp at hx
 ·exact b9G h1 h2 φ hφ
def c8M(t c:Int)(xs:List Ins)(i:Nat):Bool:=isGo (a1b b2h (b2s t c xs i))
def a7R(t c:Int)(xs:List Ins):Int:=if t<0∨2<t∨c<0∨40<c then 2 else if 32<xs.length then 3 else if b0W (c8M t c xs) xs.length 0=true then 0 else 9
theorem b0o:0≤a7R t c xs∧a7R t c xs≤1000:=by
 unfold a7R
 repeat' split
 all_goals omega
theorem c2w:a9A (c9j 1 4 9) b2h=true:=by kernel_rfl
theorem c2L:a9A (c9j 1 4 9) c4H=true:=by kernel_rfl
theorem d1C:eqY (fun a b=>bEq (isGo a) (isGo b)) c4H b2h a7l [(3,2,true)]=true:=by kernel_rfl
theorem d2c:a3H 2 3 2 4 0 ccC=true:=by kernel_rfl
theorem d1D:a3H 2 3 2 4 0 rzC=true:=by kernel_rfl
theorem d9a(hL:Lst w oa B O xs)(hin:In4 t c xs)(hi:i<xs.length):isGo (a1b c4H (b2s t c xs i))=c8M t c xs i:=by
 have h1:=d7o (cap:=0) hL hin (i:=i) (by omega)
 have hv:VOK a7l [(3,2,true)] (b2s t c xs i):=⟨h1,fun p hp=>by
  simp only[List.mem_singleton]at hp
  subst hp
  exact decide_eq_true (show(i:Int)<(xs.length:Int)by omega)⟩
 exact(b7q (a5Y (p:=fun a b=>bEq (isGo a) (isGo b)) d1C hv)).symm
theorem c9k(t0:TrX Leaf)(h:t0= .cut 0 (-1) (.leaf (.ret (.int .i64 (2)))) (.cut 0 (2) (.cut 1 (-1) (.leaf (.ret (.int .i64 (2)))) (.cut 1 (40) (.cut 2 (32) (.leaf (.goto 1 [(.int .i64 (0))])) (.leaf (.ret (.int .i64 (3))))) (.leaf (.ret (.int .i64 (2)))))) (.leaf (.ret (.int .i64 (2)))))):
  a1b t0 (b2s t c xs 0)=if t<0∨2<t∨c<0∨40<c then .ret (.int .i64 2)else if 32<xs.length then .ret (.int .i64 3)else .goto 1 [.int .i64 0]:=by
 subst h
 simp only[a1b,b2s]
 by_cases h1:t≤ -1
 ·rw[if_pos h1,if_pos (by omega)]
 ·rw[if_neg h1]
  by_cases h2:t≤2
  ·rw[if_pos h2]
   by_cases h3:c≤ -1
   ·rw[if_pos h3,if_pos (by omega)]
   ·rw[if_neg h3]
    by_cases h4:c≤40
    ·rw[if_pos h4,if_neg (c:=t<0∨2<t∨c<0∨40<c) (by omega)]
     by_cases h5:(xs.length:Int)≤32
     ·rw[if_pos h5,if_neg (by omega)]
     ·rw[if_neg h5,if_pos (by omega)]
    ·rw[if_neg h4,if_pos (by omega)]
  ·rw[if_neg h2,if_pos (by omega)]
theorem rd4{C:List CutP}{c0 c1:CutP}{L:TrX Leaf}(hC0:a0K C 0=some c0)(hC1:a0K C 1=some c1)(h0: ∀t c xs,a1b c0.tr (b2s t c xs 0)=if t<0∨2<t∨c<0∨40<c then .ret (.int .i64 2)else if 32<xs.length then .ret (.int .i64 3)else .goto 1 [.int .i64 0])(h1:c1.tr= .rel .i64 3 2 L (.leaf (.ret (.int .i64 0))))
  (hL:a9A (c9j 1 4 9) L=true) (hg:In4 t c xs→ ∀i,i<xs.length→isGo (a1b L (b2s t c xs i))=c8M t c xs i):Rd C (b2s t c xs) (fun p _=>p=0∨In4 t c xs) 0 0 (.int .i64 (a7R t c xs)):=by
 have e0:=h0 t c xs
 unfold a7R
 by_cases k1:t<0∨2<t∨c<0∨40<c
 ·rw[if_pos k1]at e0
  rw[if_pos k1]
  exact .ret hC0 (.inl rfl) e0
 ·rw[if_neg k1]at e0
  rw[if_neg k1]
  by_cases k2:32<xs.length
  ·rw[if_pos k2]at e0
   rw[if_pos k2]
   exact .ret hC0 (.inl rfl) e0
  ·rw[if_neg k2]at e0
   rw[if_neg k2]
   have hin:In4 t c xs:=⟨by omega,by omega,by omega,by omega,by omega⟩
   have s:=a5s (v:=b2s t c xs) (n:=xs.length) (g:=c8M t c xs) (rB:=.int .i64 9) (rG:=.int .i64 0) (I:=fun p _=>p=0∨In4 t c xs) hC1 (j:=4) (k:=.i64) (fun i _=>.inr hin) (fun i hi=>by
    rw[h1]
    simp only[a1b]
    rw[if_pos (show b2s t c xs i 3<b2s t c xs i 2 by show(i:Int)<(xs.length:Int);omega)]
    rw[←hg hin i hi]
    exact b9L (a1U hL)) (.ret hC1 (.inr hin) (by
    rw[h1]
    simp only[a1b]
    rw[if_neg (show¬b2s t c xs xs.length 3<b2s t c xs xs.length 2 by show¬(xs.length:Int)<(xs.length:Int);omega)])) xs.length 0 (by omega)
   refine .zero hC0 (.inl rfl) e0 ?_
   split<;>rename_i hs<;>simp only[hs]at s<;>exact s
theorem c9w(i j:Nat):agree 3 (b9h oa cap B O t c xs i) (b9h oa cap B O t c xs j):=fun k hk=>by
 match k,hk with
 |0,_=>exact⟨rfl,rfl,rfl,rfl,rfl⟩
 |1,_=>exact⟨rfl,rfl,rfl,rfl,rfl⟩
 |2,_=>exact⟨rfl,rfl,rfl,rfl,rfl⟩
theorem d6g:VRs ⟨fun _=>none,b9h oa cap B O t c xs 0⟩ [.sym 0,si 0,si 1] [.slice oa xs.length cap,.int .i64 t,.int .i64 c]:=by
 simp only[VRs,VR,si]
 exact⟨_,_,rfl,rfl,_,_,rfl,rfl,_,_,rfl,rfl,rfl⟩
theorem e1C(hL:Lst w oa B O xs)(ht:I64 t)(hc:I64 c)(hn:(xs.length:Int)≤9223372036854775807):
  Calls Try.prog 83 #[.slice oa xs.length cap,.int .i64 t,.int .i64 c] w fun e w'=>e= .returned (.int .i64 (a7R t c xs))∧Below w.heap.size w w':=by
 refine a2X (KT:=d7p) d6Z Try.func83 (by kernel_rfl) (args:=[.sym 0,si 0,si 1]) (by kernel_rfl) (c0:=d3R) rfl rfl (by kernel_rfl) rfl rfl (I:=fun p _=>p=0∨In4 t c xs) (n:=xs.length) (rho:=b9h oa cap B O t c xs) d2c rfl (fun i=>rfl) (fun i=>rfl) (fun i hi=>if_pos hi)
  (fun p c hp h0 i j=> ?_) (fun i hi e he=>by cases he) (fun p c hp i hi hI=> ?_) (fun ρ=>rfl) (rd4 (C:=ccC) (c0:=d3R) (c1:=a5c) rfl rfl (fun t c xs=>c9k _ rfl) rfl c2w (fun _ i _=>rfl)) d6g
 ·match p,hp,h0 with
  |1,hp,_=>cases hp;exact c9w i j
 ·match p,hp with
  |0,hp=>cases hp;exact⟨e2k hL ht hc hn hi,fun iv fs=>b9G⟩
  |1,hp=>
   cases hp
   rcases hI with h|hin
   ·cases h
   ·exact⟨d7o hL hin hi,fun iv fs=>c0x hL hn⟩
theorem e1B(hL:Lst w oa B O xs)(ht:I64 t)(hc:I64 c)(hn:(xs.length:Int)≤9223372036854775807):
  Calls Try.prog 64 #[.slice oa xs.length cap,.int .i64 t,.int .i64 c] w fun e w'=>e= .returned (.int .i64 (a7R t c xs))∧Below w.heap.size w w':=by
 refine a2X (KT:=d7L) d5D Try.func64 (by kernel_rfl) (args:=[.sym 0,si 0,si 1]) (by kernel_rfl) (c0:=d3D) rfl rfl (by kernel_rfl) rfl rfl (I:=fun p _=>p=0∨In4 t c xs) (n:=xs.length) (rho:=b9h oa cap B O t c xs) d1D rfl (fun i=>rfl) (fun i=>rfl) (fun i hi=>if_pos hi)
  (fun p c hp h0 i j=> ?_) (fun i hi e he=>by cases he) (fun p c hp i hi hI=> ?_) (fun ρ=>rfl) (rd4 (C:=rzC) (c0:=d3D) (c1:=d1B) rfl rfl (fun t c xs=>c9k _ rfl) rfl c2L (fun hin i hi=>d9a hL hin hi)) d6g
 ·match p,hp,h0 with
  |1,hp,_=>cases hp;exact c9w i j
 ·match p,hp with
  |0,hp=>cases hp;exact⟨e2k hL ht hc hn hi,fun iv fs=>b9G⟩
  |1,hp=>
   cases hp
   rcases hI with h|hin
   ·cases h
   ·exact⟨d7o hL hin hi,fun iv fs=>c0x hL hn⟩
end
end
end Go.Proofs.Ytmmmknhdigapkaa.plq
namespace Go.Proofs.Ytmmmknhdigapkaa.plq
open Go.Ev Go.RowKit
set_option linter.unusedVariables false
noncomputable section
structure Ab where
 kind:Int
 event:Int
 who:Int
 c0:Int
 c1:Int
 c2:Int
 c3:Int
 tap:Bool
 tg:List Int
 code:List Ins
 op:Int
 a:Int
 b:Int
def Ab.zero:Ab:=⟨0,0,0,0,0,0,0,false,[],[],0,0,0⟩
structure Ab.Fits(x:Ab):Prop where
 ints: ∀z∈ [x.kind,x.event,x.who,x.c0,x.c1,x.c2,x.c3,x.op,x.a,x.b],I64 z
 tg: ∀z∈x.tg,I64 z
 tl:(x.tg.length:Int)≤9223372036854775807
 cl:(x.code.length:Int)≤9223372036854775807
structure Cx where
 name:ByteArray
 kind:Int
 c0:Int
 c1:Int
 c2:Int
 c3:Int
 color:Int
 power:Int
 tough:Int
 keys:Int
 abs:List Ab
 oa:Option Addr
 cap:Nat
 B:Nat
 O:Nat
 ta:Nat→Option Addr
 tc:Nat→Nat
 tB:Nat→Nat
 tO:Nat→Nat
 ca:Nat→Option Addr
 cc:Nat→Nat
 cB:Nat→Nat
 cO:Nat→Nat
def Cx.ab(D:Cx)(i:Nat):Ab:=D.abs.getD i Ab.zero
def Cx.v(D:Cx)(n:Int)(i:Nat):Nat→Int
 |0=>n
 |1=>D.kind
 |2=>D.c0
 |3=>D.c1
 |4=>D.c2
 |5=>D.c3
 |6=>D.color
 |7=>D.power
 |8=>D.tough
 |9=>D.keys
 |10=>D.name.size
 |11=>D.abs.length
 |12=>i
 |13=>if i<D.abs.length then i+1 else 1
 |14=>(D.ab i).kind
 |15=>(D.ab i).event
 |16=>(D.ab i).who
 |17=>(D.ab i).c0
 |18=>(D.ab i).c1
 |19=>(D.ab i).c2
 |20=>(D.ab i).c3
 |21=>if(D.ab i).tap=true then 1 else 0
 |22=>(D.ab i).tg.length
 |23=>(D.ab i).code.length
 |24=>(D.ab i).op
 |25=>(D.ab i).a
 |26=>(D.ab i).b
 |27=>(D.ab i).tg.getD 0 0
 |28=>(D.ab i).tg.getD 1 0
 |29=>a7R ((D.ab i).tg.length:Int) n (D.ab i).code
 |_=>0
def Cx.vals(D:Cx)(i:Nat):Nat→Value
 |0=>.string D.name
 |1=>.slice D.oa D.abs.length D.cap
 |32=>.slice (D.ta i) (D.ab i).tg.length (D.tc i)
 |33=>.slice (D.ca i) (D.ab i).code.length (D.cc i)
 |_=>.slice none 0 0
def Cx.rho(D:Cx)(n:Int)(i:Nat):Rho:=
 ⟨D.v n i,D.vals i,fun k=>if k=30 then D.B else if k=31 then D.tB i else 0,fun k=>if k=30 then D.O+i*13 else if k=31 then D.tO i else 0,
  fun k=>by
   unfold Cx.vals
   split<;>rfl,fun _=>[],fun _ _ h=>by cases h⟩
def Cx.cells(D:Cx)(i:Nat):List Value:=[.int .i64 (D.ab i).kind,.int .i64 (D.ab i).event,.int .i64 (D.ab i).who,.int .i64 (D.ab i).c0,.int .i64 (D.ab i).c1,.int .i64 (D.ab i).c2,.int .i64 (D.ab i).c3,.bool (D.ab i).tap,
 .slice (D.ta i) (D.ab i).tg.length (D.tc i),.slice (D.ca i) (D.ab i).code.length (D.cc i),.int .i64 (D.ab i).op,.int .i64 (D.ab i).a,.int .i64 (D.ab i).b]
structure Cx.OK(D:Cx)(w:World):Prop where
 cells: ∀i,i<D.abs.length→D.oa=some ⟨D.B,D.O,none⟩∧D.B<w.heap.size∧ ∀j v,(D.cells i)[j]? =some v→w.cell? ⟨D.B,D.O+i*13+j,none⟩=some v
 tgs: ∀i j,i<D.abs.length→j<(D.ab i).tg.length→D.ta i=some ⟨D.tB i,D.tO i,none⟩∧D.tB i<w.heap.size∧w.cell? ⟨D.tB i,D.tO i+j,none⟩=some (.int .i64 ((D.ab i).tg.getD j 0))
 codes: ∀i,i<D.abs.length→Lst w (D.ca i) (D.cB i) (D.cO i) (D.ab i).code
 ints: ∀z∈ [D.kind,D.c0,D.c1,D.c2,D.c3,D.color,D.power,D.tough,D.keys],I64 z
 nm:(D.name.size:Int)≤9223372036854775807
 len:(D.abs.length:Int)≤9223372036854775807
 abf: ∀x∈D.abs,x.Fits
def Cx.val(D:Cx):Value:=.agg ⟨[.string D.name,.int .i64 D.kind,.int .i64 D.c0,.int .i64 D.c1,.int .i64 D.c2,.int .i64 D.c3,.int .i64 D.color,.int .i64 D.power,.int .i64 D.tough,.int .i64 D.keys,.slice D.oa D.abs.length D.cap]⟩
theorem c3M:Ab.zero.Fits:=⟨by intro z hz;simp[Ab.zero]at hz;subst hz;exact a2T,(fun z hz=>by cases hz),by decide,by decide⟩
theorem Lst.later{w w':World}{oa:Option Addr}{B O:Nat}{xs:List Ins}(h:Lst w oa B O xs)(hs:w.heap.size≤w'.heap.size)(ho: ∀k,k<w.heap.size→w'.heap[k]? =w.heap[k]?):Lst w' oa B O xs:=by
 refine⟨fun i x hi=> ?_,h.fits⟩
 obtain⟨g1,g2,g3,g4,g5⟩:=h.cells i x hi
 have e: ∀o,w'.cell? ⟨B,o,none⟩=w.cell? ⟨B,o,none⟩:=fun o=>by simp only[World.cell?,ho B g2]
 exact⟨g1,Nat.lt_of_lt_of_le g2 hs,by rw[e];exact g3,by rw[e];exact g4,by rw[e];exact g5⟩
section
variable{D:Cx}{w:World}{n:Int}{i:Nat}
theorem Cx.OK.later{w':World}(h:D.OK w)(hs:w.heap.size≤w'.heap.size)(ho: ∀k,k<w.heap.size→w'.heap[k]? =w.heap[k]?):D.OK w':=by
 refine⟨fun i hi=> ?_,fun i j hi hj=> ?_,fun i hi=>(h.codes i hi).later hs ho,h.ints,h.nm,h.len,h.abf⟩
 ·obtain⟨g1,g2,g3⟩:=h.cells i hi
  have e: ∀o,w'.cell? ⟨D.B,o,none⟩=w.cell? ⟨D.B,o,none⟩:=fun o=>by simp only[World.cell?,ho D.B g2]
  exact⟨g1,Nat.lt_of_lt_of_le g2 hs,fun j v hv=>by rw[e];exact g3 j v hv⟩
 ·obtain⟨g1,g2,g3⟩:=h.tgs i j hi hj
  have e: ∀o,w'.cell? ⟨D.tB i,o,none⟩=w.cell? ⟨D.tB i,o,none⟩:=fun o=>by simp only[World.cell?,ho _ g2]
  exact⟨g1,Nat.lt_of_lt_of_le g2 hs,by rw[e];exact g3⟩
theorem Cx.OK.fit(h:D.OK w)(i:Nat):(D.ab i).Fits:=by
 unfold Cx.ab
 by_cases hi:i<D.abs.length
 ·exact h.abf _ (List.mem_of_getElem? (b7r hi))
 ·have e:D.abs.getD i Ab.zero=Ab.zero:=by simp[List.getD_eq_getElem?_getD,List.getElem?_eq_none (by omega:D.abs.length≤i)]
  rw[e]
  exact c3M
theorem Cx.OK.code(h:D.OK w)(i:Nat):Lst w (D.ca i) (D.cB i) (D.cO i) (D.ab i).code:=by
 by_cases hi:i<D.abs.length
 ·exact h.codes i hi
 ·have e:(D.ab i).code= []:=by
   unfold Cx.ab
   simp[List.getD_eq_getElem?_getD,List.getElem?_eq_none (by omega:D.abs.length≤i),Ab.zero]
  rw[e]
  exact⟨fun i x hx=>by simp at hx,fun x hx=>by cases hx⟩
theorem b7O{l:List Int}(h: ∀z∈l,I64 z)(j:Nat):I64 (l.getD j 0):=by
 by_cases hj:j<l.length
 ·exact h _ (List.mem_of_getElem? (b7r hj))
 ·rw[show l.getD j 0=0 by simp[List.getD_eq_getElem?_getD,List.getElem?_eq_none (by omega:l.length≤j)]]
  exact a2T
theorem c3g(h:D.OK w)(hn:I64 n)(hi:i≤D.abs.length): ∀k,I64 (D.v n i k):=fun k=>by
 have f:=h.fit i
 have hl:=h.len
 have h1:=h.ints
 have h2:=f.ints
 match k with
 |0=>exact hn
 |1=>exact h1 D.kind (by simp)
 |2=>exact h1 D.c0 (by simp)
 |3=>exact h1 D.c1 (by simp)
 |4=>exact h1 D.c2 (by simp)
 |5=>exact h1 D.c3 (by simp)
 |6=>exact h1 D.color (by simp)
 |7=>exact h1 D.power (by simp)
 |8=>exact h1 D.tough (by simp)
 |9=>exact h1 D.keys (by simp)
 |10=>exact b5I h.nm
 |11=>exact b5I (by omega)
 |12=>exact b5I (by omega)
 |13=>exact⟨by show _≤(if i<D.abs.length then(i:Int)+1 else 1);split<;>omega,by show(if i<D.abs.length then(i:Int)+1 else 1)≤_;split<;>omega⟩
 |14=>exact h2 (D.ab i).kind (by simp)
 |15=>exact h2 (D.ab i).event (by simp)
 |16=>exact h2 (D.ab i).who (by simp)
 |17=>exact h2 (D.ab i).c0 (by simp)
 |18=>exact h2 (D.ab i).c1 (by simp)
 |19=>exact h2 (D.ab i).c2 (by simp)
 |20=>exact h2 (D.ab i).c3 (by simp)
 |21=>show I64 (if(D.ab i).tap=true then 1 else 0);split<;>exact⟨by decide,by decide⟩
 |22=>exact b5I (by have:=f.tl;omega)
 |23=>exact b5I (by have:=f.cl;omega)
 |24=>exact h2 (D.ab i).op (by simp)
 |25=>exact h2 (D.ab i).a (by simp)
 |26=>exact h2 (D.ab i).b (by simp)
 |27=>exact b7O f.tg 0
 |28=>exact b7O f.tg 1
 |29=>have:= @b0o ((D.ab i).tg.length:Int) n (D.ab i).code;exact⟨by show _≤a7R _ _ _;omega,by show a7R _ _ _≤_;omega⟩
 |k+30=>exact a2T
theorem a5X(h:D.OK w)(hn:I64 n)(hi:i≤D.abs.length):IvOK b8U (D.rho n i):=by
 have f:=c3g h hn hi
 have h10:=h.nm
 exact b3u (f:=D.v n i) ⟨f 0,f 1,f 2,f 3,f 4,f 5,f 6,f 7,f 8,f 9,⟨by show(0:Int)≤(D.name.size:Int);omega,(f 10).2⟩,⟨by show(0:Int)≤(D.abs.length:Int);omega,(f 11).2⟩,trivial⟩ f
theorem c9M:(0:Int)≤(if(D.ab i).tap=true then 1 else 0)∧(if(D.ab i).tap=true then(1:Int)else 0)≤1:=by split<;>decide
theorem b2D(h:D.OK w)(hn:I64 n)(hi:i≤D.abs.length):IvOK c5s (D.rho n i):=by
 have f:=c3g h hn hi
 have h29:= @b0o ((D.ab i).tg.length:Int) n (D.ab i).code
 exact b3u (f:=D.v n i) ⟨f 0,f 1,f 2,f 3,f 4,f 5,f 6,f 7,f 8,f 9,⟨by show(0:Int)≤(D.name.size:Int);omega,(f 10).2⟩,⟨by show(0:Int)≤(D.abs.length:Int);omega,(f 11).2⟩,⟨by show(0:Int)≤(i:Int);omega,(f 12).2⟩,f 13,f 14,f 15,f 16,f 17,f 18,f 19,f 20,c9M,
  ⟨by show(0:Int)≤((D.ab i).tg.length:Int);omega,(f 22).2⟩,⟨by show(0:Int)≤((D.ab i).code.length:Int);omega,(f 23).2⟩,f 24,f 25,f 26,f 27,f 28,h29,trivial⟩ f
theorem b0K(h:D.OK w)(hn:I64 n)(hi:i≤D.abs.length)(ht:(D.ab i).tg.length≤2)(hc:(D.ab i).code.length≤32):IvOK a1t (D.rho n i):=by
 have f:=c3g h hn hi
 have h29:= @b0o ((D.ab i).tg.length:Int) n (D.ab i).code
 exact b3u (f:=D.v n i) ⟨f 0,f 1,f 2,f 3,f 4,f 5,f 6,f 7,f 8,f 9,⟨by show(0:Int)≤(D.name.size:Int);omega,(f 10).2⟩,⟨by show(0:Int)≤(D.abs.length:Int);omega,(f 11).2⟩,⟨by show(0:Int)≤(i:Int);omega,(f 12).2⟩,f 13,f 14,f 15,f 16,f 17,f 18,f 19,f 20,c9M,
  ⟨by show(0:Int)≤((D.ab i).tg.length:Int);omega,by show((D.ab i).tg.length:Int)≤2;omega⟩,⟨by show(0:Int)≤((D.ab i).code.length:Int);omega,by show((D.ab i).code.length:Int)≤32;omega⟩,f 24,f 25,f 26,f 27,f 28,h29,trivial⟩ f
theorem c1c:b0j d2k (D.rho n i):=a0F ⟨.string D.name,D.name.size,rfl,⟨_,rfl,rfl⟩,rfl⟩ (a0F (b0x rfl rfl) a0b)
theorem a3y{x:List Fact}(hx:b0j x (D.rho n i)){iv:Ivs}{fs:List Fact}(h1:IvOK iv (D.rho n i))(h2:b0j fs (D.rho n i))(φ:Phi)(hφ:φ.ρ=D.rho n i):EnvP (c3L x iv fs) φ w:=
 ⟨by rw[hφ];exact h1,by rw[hφ];exact fs_app h2 (fs_app hx c1c),fun k cs h=>by cases h⟩
theorem b2E{iv:Ivs}{k:Nat}{z:Int}{ρ:Rho}(h:d2C iv k z=true)(h1:IvOK iv ρ):z≤ρ.int k:=by
 have:=of_decide_eq_true h
 have:=(h1 k).1
 omega
theorem d4n(h:D.OK w)(hi:i<D.abs.length){iv:Ivs}(h1:IvOK iv (D.rho n i)):b0j (tgF iv) (D.rho n i):=by
 have at_: ∀j:Nat,(j:Int)+1≤((D.ab i).tg.length:Int)→FactOK (D.rho n i) (.at 1 (.sym 32) (.int .i64 (j:Int)) ⟨.sym 31,j⟩):=fun j hj=>by
  obtain⟨g1,g2,g3⟩:=h.tgs i j hi (by omega)
  refine⟨⟨D.tB i,D.tO i,none⟩,(D.ab i).tg.length,D.tc i,.i64,j,31, ?_,rfl,rfl,by omega,by omega,rfl,rfl, ?_⟩
  ·show some (Value.slice (D.ta i) _ _)=_
   rw[g1]
  ·show D.tO i+j=D.tO i+(j:Int).toNat*1
   simp
 unfold tgF
 refine fs_app ?_ ?_
 ·split
  ·rename_i hh
   have:=b2E hh h1
   exact a0F (at_ 0 (by show(0:Int)+1≤_;exact this)) a0b
  ·exact a0b
 ·split
  ·rename_i hh
   have:=b2E hh h1
   exact a0F (at_ 1 (by show(1:Int)+1≤_;exact this)) a0b
  ·exact a0b
theorem d0u{iv:Ivs}{φ:Phi}(hφ:φ.ρ=D.rho n i)(h1:IvOK iv (D.rho n i)):VR φ (d9T iv) (.bool (D.ab i).tap):=by
 have e:(D.rho n i).int 21=if(D.ab i).tap=true then 1 else 0:=rfl
 have h21:=h1 21
 rw[e]at h21
 unfold d9T
 cases e1:d2C iv 21 1 with
 |true=>
  have:=b2E e1 h1
  rw[e]at this
  cases ht:(D.ab i).tap with
  |true=>simp only[VR]
  |false=>rw[ht]at this;simp at this
 |false=>cases e2:decide ((a2I iv 21).2≤0)with
  |true=>
   have:=of_decide_eq_true e2
   cases ht:(D.ab i).tap with
   |true=>rw[ht]at h21;simp at h21;omega
   |false=>simp only[VR]
  |false=>
   simp only[VR]
   rfl
theorem a1I(h:D.OK w){x:List Fact}(hx:b0j x (D.rho n i)){iv:Ivs}{fs:List Fact}(h1:IvOK iv (D.rho n i))(h2:b0j fs (D.rho n i))(φ:Phi)(hφ:φ.ρ=D.rho n i):EnvP (a4S x iv fs) φ w:=by
 unfold a4S
 split
 ·rename_i hh
  have hi:(i:Int)<(D.abs.length:Int):=b7N w hh h2
  have hl:=h.len
  obtain⟨g1,g2,g3⟩:=h.cells i (by omega)
  refine⟨by rw[hφ];exact h1,by
   rw[hφ]
   refine fs_app h2 (fs_app hx (fs_app c1c (fs_app (a0F ?_ (a0F ?_ (a0F (b0x rfl rfl) (a0F (b0x rfl rfl) a0b)))) (d4n h (by omega) h1))))
   ·refine c5X (n:=i) (B:=D.B) (O:=D.O) (l:=D.abs.length) (c:=D.cap) ?_ rfl (by omega) rfl rfl
    show some (Value.slice D.oa D.abs.length D.cap)=_
    rw[g1]
   ·have e13:D.v n i 13=(i:Int)+1:=by show(if i<D.abs.length then(i:Int)+1 else 1)=_;rw[if_pos (by omega)]
    exact c1L e13 (show -9223372036854775808≤D.v n i 13 by rw[e13];omega) (show D.v n i 13≤9223372036854775807 by rw[e13];omega),fun k cs hk=> ?_⟩
  simp only at hk
  split at hk
  ·rename_i hb
   have e:=Nat.eq_of_beq_eq_true hb
   subst e
   obtain rfl:=(Option.some.inj hk).symm
   have eb:φ.ρ.blk 30=D.B:=by rw[hφ];rfl
   have eo:φ.ρ.off 30=D.O+i*13:=by rw[hφ];rfl
   rw[eb,eo]
   refine⟨g2,fun j x hx=> ?_⟩
   have v14:VR φ (sv iv .i64 14) (.int .i64 (D.ab i).kind):=by have:=d6n (φ:=φ) (iv:=iv) (by rw[hφ];exact h1) .i64 14;rw[hφ]at this;exact this
   have c:=g3 j
   match j with
   |0=>cases hx;exact⟨_,c _ rfl,v14⟩
   |1=>cases hx;exact⟨_,c _ rfl,by simp only[si,VR,hφ];rfl⟩
   |2=>cases hx;exact⟨_,c _ rfl,by simp only[si,VR,hφ];rfl⟩
   |3=>cases hx;exact⟨_,c _ rfl,by simp only[si,VR,hφ];rfl⟩
   |4=>cases hx;exact⟨_,c _ rfl,by simp only[si,VR,hφ];rfl⟩
   |5=>cases hx;exact⟨_,c _ rfl,by simp only[si,VR,hφ];rfl⟩
   |6=>cases hx;exact⟨_,c _ rfl,by simp only[si,VR,hφ];rfl⟩
   |7=>cases hx;exact⟨_,c _ rfl,d0u hφ h1⟩
   |8=>cases hx;exact⟨_,c _ rfl,by simp only[VR,hφ];rfl⟩
   |9=>cases hx;exact⟨_,c _ rfl,by simp only[VR,hφ];rfl⟩
   |10=>cases hx;exact⟨_,c _ rfl,by simp only[si,VR,hφ];rfl⟩
   |11=>cases hx;exact⟨_,c _ rfl,by simp only[si,VR,hφ];rfl⟩
   |12=>cases hx;exact⟨_,c _ rfl,by simp only[si,VR,hφ];rfl⟩
   |j+13=>simp[c9o]at hx
  ·split at hk
   ·rename_i hb h22
    have e:=Nat.eq_of_beq_eq_true hb
    subst e
    obtain rfl:=(Option.some.inj hk).symm
    have eb:φ.ρ.blk 31=D.tB i:=by rw[hφ];rfl
    have eo:φ.ρ.off 31=D.tO i:=by rw[hφ];rfl
    rw[eb,eo]
    have l1:(1:Int)≤((D.ab i).tg.length:Int):=b2E h22 h1
    obtain⟨t1,t2,t3⟩:=h.tgs i 0 (by omega) (by omega)
    refine⟨t2,fun j x hx=> ?_⟩
    match j with
    |0=>
     have:x=si 27:=by
      split at hx<;>cases hx<;>rfl
     subst this
     exact⟨_,t3,by simp only[si,VR,hφ];rfl⟩
    |1=>
     split at hx
     ·rename_i h2
      cases hx
      have l2:(2:Int)≤((D.ab i).tg.length:Int):=b2E h2 h1
      obtain⟨_,_,u3⟩:=h.tgs i 1 (by omega) (by omega)
      exact⟨_,u3,by simp only[si,VR,hφ];rfl⟩
     ·simp at hx
    |j+2=>split at hx<;>simp at hx
   ·cases hk
 ·exact a3y hx h1 h2 φ hφ
end
end
end Go.Proofs.Ytmmmknhdigapkaa.plq
namespace Go.Proofs.Ytmmmknhdigapkaa.plq
open Go.Ev Go.RowKit
set_option linter.unusedVariables false
noncomputable section
section
variable{D:Cx}{w:World}{n:Int}{i:Nat}
theorem a3M(i j:Nat):agree 12 (D.rho n i) (D.rho n j):=fun k hk=>by
 match k,hk with
 |0,_=>exact⟨rfl,rfl,rfl,rfl,rfl⟩
 |1,_=>exact⟨rfl,rfl,rfl,rfl,rfl⟩
 |2,_=>exact⟨rfl,rfl,rfl,rfl,rfl⟩
 |3,_=>exact⟨rfl,rfl,rfl,rfl,rfl⟩
 |4,_=>exact⟨rfl,rfl,rfl,rfl,rfl⟩
 |5,_=>exact⟨rfl,rfl,rfl,rfl,rfl⟩
 |6,_=>exact⟨rfl,rfl,rfl,rfl,rfl⟩
 |7,_=>exact⟨rfl,rfl,rfl,rfl,rfl⟩
 |8,_=>exact⟨rfl,rfl,rfl,rfl,rfl⟩
 |9,_=>exact⟨rfl,rfl,rfl,rfl,rfl⟩
 |10,_=>exact⟨rfl,rfl,rfl,rfl,rfl⟩
 |11,_=>exact⟨rfl,rfl,rfl,rfl,rfl⟩
theorem c1O{φ:Phi}(hφ:φ.ρ=D.rho n i):VRs φ [a5d] [D.val]:=by
 simp only[VRs,VR,a5d,si,Cx.val,hφ]
 exact⟨_,_,rfl,⟨_,⟨_,_,rfl,rfl,_,_,rfl,rfl,_,_,rfl,rfl,_,_,rfl,rfl,_,_,rfl,rfl,_,_,rfl,rfl,_,_,rfl,rfl,_,_,rfl,rfl,_,_,rfl,rfl,_,_,rfl,rfl,_,_,rfl,rfl,rfl⟩,rfl⟩,rfl⟩
theorem a9d{φ:Phi}(hφ:φ.ρ=D.rho n i){vs:List Value}(h:VRs φ [a5d] vs):vs= [D.val]:=by
 simp only[VRs,VR,a5d,si,hφ]at h
 obtain⟨_,_,rfl,⟨_,⟨_,_,rfl,rfl,_,_,rfl,rfl,_,_,rfl,rfl,_,_,rfl,rfl,_,_,rfl,rfl,_,_,rfl,rfl,_,_,rfl,rfl,_,_,rfl,rfl,_,_,rfl,rfl,_,_,rfl,rfl,_,_,rfl,rfl,rfl⟩,rfl⟩,rfl⟩:=h
 rfl
def Cx.fine(D:Cx)(i:Nat):Bool:=decide ((D.ab i).tg.length≤2)&&decide ((D.ab i).code.length≤32)
def Cx.isLong(D:Cx):Bool:= !(b0W D.fine D.abs.length 0&&(decide (D.name.size≤16)&&decide (D.abs.length≤4)))
theorem d2Y:a3H 2 12 11 13 0 clC=true:=by kernel_rfl
theorem c1I:D.fine i=true↔((D.ab i).tg.length:Int)≤2∧((D.ab i).code.length:Int)≤32:=by
 simp only[Cx.fine,Bool.and_eq_true,decide_eq_true_eq]
 omega
theorem a8Q(t:TrX Leaf)(a b:Leaf)(ht:t= .cut 22 (2) (.cut 23 (32) (.leaf a) (.leaf b)) (.leaf b)):a1b t (D.v n i)=if D.fine i=true then a else b:=by
 subst ht
 simp only[a1b]
 have e22:D.v n i 22=((D.ab i).tg.length:Int):=rfl
 have e23:D.v n i 23=((D.ab i).code.length:Int):=rfl
 rw[e22,e23]
 by_cases h:D.fine i=true
 ·obtain⟨h1,h2⟩:=c1I.1 h
  rw[if_pos h,if_pos h1,if_pos h2]
 ·rw[if_neg h]
  have:=mt c1I.2 h
  by_cases h1:((D.ab i).tg.length:Int)≤2
  ·rw[if_pos h1,if_neg (fun h2=>this ⟨h1,h2⟩)]
  ·rw[if_neg h1]
theorem a4F{L R:TrX Leaf}{k:IntKind}(hi:i<D.abs.length):a1b (.rel k 12 11 L R) (D.v n i)=a1b L (D.v n i):=by
 simp only[a1b]
 rw[if_pos (show D.v n i 12<D.v n i 11 by show(i:Int)<(D.abs.length:Int);omega)]
theorem a3Q{L R:TrX Leaf}{k:IntKind}:a1b (.rel k 12 11 L R) (D.v n D.abs.length)=a1b R (D.v n D.abs.length):=by
 simp only[a1b]
 rw[if_neg (show¬D.v n D.abs.length 12<D.v n D.abs.length 11 by show¬(D.abs.length:Int)<(D.abs.length:Int);omega)]
theorem b6f:(decide (D.name.size≤16)&&decide (D.abs.length≤4))=true↔(D.name.size:Int)≤16∧(D.abs.length:Int)≤4:=by
 simp only[Bool.and_eq_true,decide_eq_true_eq]
 omega
theorem c0r(t:TrX Leaf)(a b:Leaf)(ht:t= .cut 10 (16) (.cut 11 (4) (.leaf a) (.leaf b)) (.leaf b)):a1b t (D.v n i)=if(decide (D.name.size≤16)&&decide (D.abs.length≤4))=true then a else b:=by
 subst ht
 simp only[a1b]
 have e10:D.v n i 10=(D.name.size:Int):=rfl
 have e11:D.v n i 11=(D.abs.length:Int):=rfl
 rw[e10,e11]
 by_cases h:(decide (D.name.size≤16)&&decide (D.abs.length≤4))=true
 ·obtain⟨h1,h2⟩:=b6f.1 h
  rw[if_pos h,if_pos h1,if_pos h2]
 ·rw[if_neg h]
  have:=mt b6f.2 h
  by_cases h1:(D.name.size:Int)≤16
  ·rw[if_pos h1,if_neg (fun h2=>this ⟨h1,h2⟩)]
  ·rw[if_neg h1]
theorem e0b(h:D.OK w):Calls Try.prog 40 #[D.val] w fun e w'=>e= .returned (.bool D.isLong)∧Below w.heap.size w w':=by
 have hr:Rd clC (D.v 0) (fun _ _=>True) 0 0 (.bool D.isLong):=by
  refine .zero (c:=d7m) (q:=1) (k:=.i64) (z:=0) rfl trivial rfl ?_
  have s:=a5s (C:=clC) (v:=D.v 0) (I:=fun _ _=>True) (p:=1) (n:=D.abs.length) (j:=13) (k:=.i64) (c:=d3Q) (g:=D.fine) (rB:=.bool true) (rG:=.bool !(decide (D.name.size≤16)&&decide (D.abs.length≤4))) rfl (fun _ _=>trivial)
   (fun i hi=>(a4F hi).trans (a8Q _ _ _ rfl)) (.ret (c:=d3Q) rfl trivial ((a3Q).trans ((c0r _ _ _ rfl).trans (by split<;>rename_i hs<;>simp only[hs]<;>rfl)))) D.abs.length 0 (by omega)
  unfold Cx.isLong
  cases ha:b0W D.fine D.abs.length 0 with
  |true=>rw[ha]at s;simpa using s
  |false=>rw[ha]at s;simpa using s
 refine a2X (KT:=d7n) d6L Try.func40 (by kernel_rfl) (args:=[a5d]) (by kernel_rfl) (c0:=d7m) rfl rfl (by kernel_rfl) rfl rfl (I:=fun _ _=>True) (n:=D.abs.length) (rho:=D.rho 0) d2Y rfl (fun i=>rfl) (fun i=>rfl) (fun i hi=>if_pos hi)
  (fun p c hp h0 i j=> ?_) (fun i hi e he=>by cases he) (fun p c hp i hi _=> ?_) (fun ρ=>rfl) hr (c1O rfl)
 ·match p,hp,h0 with
  |1,hp,_=>cases hp;exact a3M i j
 ·match p,hp with
  |0,hp=>cases hp;exact⟨a5X h a2T hi,fun iv fs=>a3y a0b⟩
  |1,hp=>cases hp;exact⟨b2D h a2T hi,fun iv fs=>a1I h a0b⟩
def b7G:Leaf→Bool
 |.ret r=>match r with
  |.bool b=>b
  |_=>false
 |_=>false
def isB:Leaf→Bool
 |.ret r=>match r with
  |.bool _=>true
  |_=>false
 |_=>false
theorem c9h{o:Leaf}(h:isB o=true):o= .ret (.bool (b7G o)):=by
 cases o with
 |goto _ _=>simp[isB]at h
 |ret r=>cases r<;>simp[isB]at h;rfl
def Cx.body(D:Cx):Bool:=b7G (a1b d3S (D.v 0 0))
theorem d6f:a9A isB d3S=true:=by kernel_rfl
theorem d5T:a9A isB d5Q=true:=by kernel_rfl
theorem d2f:a3H 1 12 11 13 0 cbC=true:=by kernel_rfl
theorem d1N:a3H 1 12 11 13 0 rbC=true:=by kernel_rfl
theorem c6G:eqY (fun a b=>bEq (b7G a) (b7G b)) d5Q d3S b8U []=true:=by kernel_rfl
theorem e1N(h:D.OK w):Calls Try.prog 41 #[D.val] w fun e w'=>e= .returned (.bool D.body)∧Below w.heap.size w w':=by
 have hr:Rd cbC (D.v 0) (fun _ _=>True) 0 0 (.bool D.body):=.ret (c:=c3J) rfl trivial (c9h (a1U d6f))
 refine a2X (KT:=d7q) d6e Try.func41 (by kernel_rfl) (args:=[a5d]) (by kernel_rfl) (c0:=c3J) rfl rfl (by kernel_rfl) rfl rfl (I:=fun _ _=>True) (n:=D.abs.length) (rho:=D.rho 0) d2f rfl (fun i=>rfl) (fun i=>rfl) (fun i hi=>if_pos hi)
  (fun p c hp h0 i j=> ?_) (fun i hi e he=>by cases he) (fun p c hp i hi _=> ?_) (fun ρ=>rfl) hr (c1O rfl)
 ·match p,hp,h0 with
  |p+1,hp,_=>cases hp
 ·match p,hp with
  |0,hp=>cases hp;exact⟨a5X h a2T hi,fun iv fs=>a3y a0b⟩
theorem e1M(h:D.OK w):Calls Try.prog 44 #[D.val] w fun e w'=>e= .returned (.bool D.body)∧Below w.heap.size w w':=by
 have e:b7G (a1b d5Q (D.v 0 0))=D.body:=(b7q (a5Y (p:=fun a b=>bEq (b7G a) (b7G b)) c6G (d0E (a5X h a2T (Nat.zero_le _))))).symm
 have hr:Rd rbC (D.v 0) (fun _ _=>True) 0 0 (.bool D.body):=.ret (c:=d7N) rfl trivial (by rw[←e];exact c9h (a1U d5T))
 refine a2X (KT:=d7O) d5S Try.func44 (by kernel_rfl) (args:=[a5d]) (by kernel_rfl) (c0:=d7N) rfl rfl (by kernel_rfl) rfl rfl (I:=fun _ _=>True) (n:=D.abs.length) (rho:=D.rho 0) d1N rfl (fun i=>rfl) (fun i=>rfl) (fun i hi=>if_pos hi)
  (fun p c hp h0 i j=> ?_) (fun i hi e he=>by cases he) (fun p c hp i hi _=> ?_) (fun ρ=>rfl) hr (c1O rfl)
 ·match p,hp,h0 with
  |p+1,hp,_=>cases hp
 ·match p,hp with
  |0,hp=>cases hp;exact⟨a5X h a2T hi,fun iv fs=>a3y a0b⟩
end
end
end Go.Proofs.Ytmmmknhdigapkaa.plq
namespace Go.Proofs.Ytmmmknhdigapkaa.plq
open Go.Ev Go.RowKit
set_option linter.unusedVariables false
noncomputable section
section
variable{D:Cx}{w:World}{n:Int}{i:Nat}
def Cx.good(D:Cx)(n:Int)(i:Nat):Bool:=isGo (a1b (match decide (D.kind=3)with|true=>b8Q|false=>b8R) (D.v n i))
def Cx.spec(D:Cx)(n:Int):Int:=if n<0∨40<n then 2 else if D.isLong=true then 3 else if D.name.size=0∨D.body=false then 10 else if b0W (D.good n) D.abs.length 0=true∧(D.kind=3→D.abs.length=1)then 0 else 10
theorem d0y:0≤D.spec n∧D.spec n≤1000:=by
 unfold Cx.spec
 repeat' split
 all_goals omega
theorem a4H(h:D.isLong=false):(D.name.size≤16∧D.abs.length≤4)∧ ∀i,(D.ab i).tg.length≤2∧(D.ab i).code.length≤32:=by
 unfold Cx.isLong at h
 simp only[Bool.not_eq_false',Bool.and_eq_true,decide_eq_true_eq]at h
 obtain⟨h1,h2⟩:=h
 refine⟨h2,fun i=> ?_⟩
 by_cases hi:i<D.abs.length
 ·have:=a6k.1 h1 i (Nat.zero_le _) (by omega)
  simpa[Cx.fine]using this
 ·have e:D.ab i=Ab.zero:=by
   unfold Cx.ab
   simp[List.getD_eq_getElem?_getD,List.getElem?_eq_none (by omega:D.abs.length≤i)]
  rw[e]
  simp[Ab.zero]
theorem str_eq(nm:ByteArray){b:Bool}(hb:decide (nm.size=0)=b)(P:Program)(t:TypeId)(w:World):(binOp .eql t (.string nm) (.string .empty)).run P w= .ok (.bool b) w∧(binOp .neq t (.string nm) (.string .empty)).run P w= .ok (.bool (!b)) w:=by
 obtain⟨⟨l⟩⟩:=nm
 cases l with
 |nil=>
  subst hb
  have e:(⟨⟨[]⟩⟩:ByteArray)= .empty:=rfl
  rw[e]
  exact⟨by simp[binOp,Op.stringOp],by simp[binOp,Op.stringOp]⟩
 |cons x l=>
  have:b=false:=by rw[←hb];simp[ByteArray.size]
  subst this
  have e:(⟨⟨x::l⟩⟩:ByteArray)≠ .empty:=fun h=>by
   have:=congrArg ByteArray.size h
   simp[ByteArray.size]at this
  exact⟨by simp[binOp,Op.stringOp],by simp[binOp,Op.stringOp]⟩
theorem a0i{b:Bool}(hb:decide (D.name.size=0)=b):b0j (a1c b) (D.rho n i):=
 a0F ⟨.string D.name,.string .empty,.bool b,rfl,rfl,rfl,by simp,by simp,fun P t w=>(str_eq D.name hb P t w).1⟩
  (a0F ⟨.string D.name,.string .empty,.bool (!b),rfl,rfl,rfl,by simp,by simp,fun P t w=>(str_eq D.name hb P t w).2⟩ a0b)
theorem d7h(h:D.OK w){b:Bool}(hb:D.isLong=b):b7x Try.prog (D.rho n i) w ⟨40,[a5d],[],.bool b⟩:=fun φ vs w' hφ hs ho hv _=>by
 rw[a9d hφ hv]
 refine(e0b (h.later hs fun k hk=>ho k hk (fun x=>x))).mono ?_
 rintro e w'' ⟨rfl,hbl⟩
 exact⟨_,rfl,by simp only[VR,hb],hbl⟩
theorem e2a(h:D.OK w){b:Bool}(hb:D.body=b):b7x Try.prog (D.rho n i) w ⟨41,[a5d],[],.bool b⟩:=fun φ vs w' hφ hs ho hv _=>by
 rw[a9d hφ hv]
 refine(e1N (h.later hs fun k hk=>ho k hk (fun x=>x))).mono ?_
 rintro e w'' ⟨rfl,hbl⟩
 exact⟨_,rfl,by simp only[VR,hb],hbl⟩
theorem e2Z(h:D.OK w){b:Bool}(hb:D.body=b):b7x Try.prog (D.rho n i) w ⟨44,[a5d],[],.bool b⟩:=fun φ vs w' hφ hs ho hv _=>by
 rw[a9d hφ hv]
 refine(e1M (h.later hs fun k hk=>ho k hk (fun x=>x))).mono ?_
 rintro e w'' ⟨rfl,hbl⟩
 exact⟨_,rfl,by simp only[VR,hb],hbl⟩
theorem e2l{φ:Phi}(hφ:φ.ρ=D.rho n i){vs:List Value}(h:VRs φ [.sym 33,si 22,si 0] vs):vs= [.slice (D.ca i) (D.ab i).code.length (D.cc i),.int .i64 ((D.ab i).tg.length:Int),.int .i64 n]:=by
 simp only[VRs,VR,si,hφ]at h
 obtain⟨_,_,rfl,rfl,_,_,rfl,rfl,_,_,rfl,rfl,rfl⟩:=h
 rfl
theorem e4C(h:D.OK w)(hn:I64 n):b7x Try.prog (D.rho n i) w ⟨83,[.sym 33,si 22,si 0],[],si 29⟩:=fun φ vs w' hφ hs ho hv _=>by
 rw[e2l hφ hv]
 have f:=h.fit i
 refine(e1C ((h.later hs fun k hk=>ho k hk (fun x=>x)).code i) (b5I (by have:=f.tl;omega)) hn f.cl).mono ?_
 rintro e w'' ⟨rfl,hbl⟩
 exact⟨_,rfl,by simp only[VR,si,hφ];rfl,hbl⟩
theorem e4D(h:D.OK w)(hn:I64 n):b7x Try.prog (D.rho n i) w ⟨64,[.sym 33,si 22,si 0],[],si 29⟩:=fun φ vs w' hφ hs ho hv _=>by
 rw[e2l hφ hv]
 have f:=h.fit i
 refine(e1B ((h.later hs fun k hk=>ho k hk (fun x=>x)).code i) (b5I (by have:=f.tl;omega)) hn f.cl).mono ?_
 rintro e w'' ⟨rfl,hbl⟩
 exact⟨_,rfl,by simp only[VR,si,hφ];rfl,hbl⟩
theorem b2c:VRs ⟨fun _=>none,D.rho n 0⟩ [a5d,si 0] [D.val,.int .i64 n]:=by
 have h:=c1O (D:=D) (n:=n) (i:=0) (φ:=⟨fun _=>none,D.rho n 0⟩) rfl
 simp only[VRs]at h ⊢
 obtain⟨y,ys,e,h1,h2⟩:=h
 simp only[List.cons.injEq]at e
 obtain⟨rfl,rfl⟩:=e
 exact⟨_,_,rfl,h1,_,_,rfl,by simp only[si,VR];rfl,rfl⟩
theorem d0p:a3H 1 12 11 13 0 vaC=true:=by kernel_rfl
theorem d0o:a3H 1 12 11 13 0 vbC=true:=by kernel_rfl
theorem d0n:a3H 1 12 11 13 0 vcC=true:=by kernel_rfl
theorem d0k:a3H 3 12 11 13 0 vdC=true:=by kernel_rfl
theorem d0m:a9A (c9j 1 13 10) b8R=true:=by kernel_rfl
theorem d0l:a9A (c9j 2 13 10) b8Q=true:=by kernel_rfl
theorem e0:D.v n i 0=n:=rfl
theorem e1:D.v n i 1=D.kind:=rfl
theorem e11:D.v n i 11=(D.abs.length:Int):=rfl
theorem e0T(t:TrX Leaf)(z:Int)(ht:t= .cut 0 (-1) (.leaf (.ret (.int .i64 2))) (.cut 0 (40) (.leaf (.ret (.int .i64 z))) (.leaf (.ret (.int .i64 2))))):a1b t (D.v n i)= .ret (.int .i64 (if n<0∨40<n then 2 else z)):=by
 subst ht
 simp only[a1b]
 rw[e0]
 by_cases h1:n≤ -1
 ·rw[if_pos h1,if_pos (by omega)]<;>try rfl
 ·rw[if_neg h1]
  by_cases h2:n≤40
  ·rw[if_pos h2,if_neg (by omega)]<;>try rfl
  ·rw[if_neg h2,if_pos (by omega)]<;>try rfl
theorem d6R(h:D.OK w)(hn:I64 n):Calls Try.prog 23 #[D.val,.int .i64 n] w fun e w'=>e= .returned (.int .i64 (D.spec n))∧Below w.heap.size w w':=by
 cases hl:D.isLong with
 |true=>
  have e:D.spec n=if n<0∨40<n then 2 else 3:=by unfold Cx.spec;rw[if_pos hl]
  rw[e]
  refine a2X (KT:=d4h) d4g Try.func23 (by kernel_rfl) (args:=[a5d,si 0]) (by kernel_rfl) (c0:=d7G) rfl rfl (by kernel_rfl) rfl rfl (I:=fun _ _=>True) (n:=D.abs.length) (rho:=D.rho n) d0p rfl (fun i=>rfl) (fun i=>rfl) (fun i hi=>if_pos hi)
   (fun p c hp h0 i j=> ?_) (fun i hi e he=> ?_) (fun p c hp i hi _=> ?_) (fun ρ=>rfl) (.ret (c:=d7G) rfl trivial (e0T _ 3 rfl)) b2c
  ·match p,hp,h0 with
   |p+1,hp,_=>cases hp
  ·simp only[d4h,List.mem_singleton]at he
   subst he
   exact d7h h hl
  ·match p,hp with
   |0,hp=>cases hp;exact⟨a5X h hn hi,fun iv fs=>a3y a0b⟩
 |false=>
  obtain⟨hs,hf⟩:=a4H hl
  cases hm:decide (D.name.size=0)with
  |true=>
   have e:D.spec n=if n<0∨40<n then 2 else 10:=by unfold Cx.spec;rw[if_neg (c:=D.isLong=true) (by rw[hl];simp),if_pos (c:=D.name.size=0∨D.body=false) (.inl (of_decide_eq_true hm))]
   rw[e]
   refine a2X (KT:=d4e) d4d Try.func23 (by kernel_rfl) (args:=[a5d,si 0]) (by kernel_rfl) (c0:=d7F) rfl rfl (by kernel_rfl) rfl rfl (I:=fun _ _=>True) (n:=D.abs.length) (rho:=D.rho n) d0o rfl (fun i=>rfl) (fun i=>rfl) (fun i hi=>if_pos hi)
    (fun p c hp h0 i j=> ?_) (fun i hi e he=> ?_) (fun p c hp i hi _=> ?_) (fun ρ=>rfl) (.ret (c:=d7F) rfl trivial (e0T _ 10 rfl)) b2c
   ·match p,hp,h0 with
    |p+1,hp,_=>cases hp
   ·simp only[d4e,List.mem_singleton]at he
    subst he
    exact d7h h hl
   ·match p,hp with
    |0,hp=>cases hp;exact⟨a5X h hn hi,fun iv fs=>a3y (a0i hm)⟩
  |false=>
   have hm':=of_decide_eq_false hm
   cases hb:D.body with
   |false=>
    have e:D.spec n=if n<0∨40<n then 2 else 10:=by unfold Cx.spec;rw[if_neg (c:=D.isLong=true) (by rw[hl];simp),if_pos (c:=D.name.size=0∨D.body=false) (.inr hb)]
    rw[e]
    refine a2X (KT:=d4b) d4a Try.func23 (by kernel_rfl) (args:=[a5d,si 0]) (by kernel_rfl) (c0:=d7E) rfl rfl (by kernel_rfl) rfl rfl (I:=fun _ _=>True) (n:=D.abs.length) (rho:=D.rho n) d0n rfl (fun i=>rfl) (fun i=>rfl) (fun i hi=>if_pos hi)
     (fun p c hp h0 i j=> ?_) (fun i hi e he=> ?_) (fun p c hp i hi _=> ?_) (fun ρ=>rfl) (.ret (c:=d7E) rfl trivial (e0T _ 10 rfl)) b2c
    ·match p,hp,h0 with
     |p+1,hp,_=>cases hp
    ·simp only[d4b,List.mem_cons,List.not_mem_nil,or_false]at he
     rcases he with rfl|rfl
     ·exact d7h h hl
     ·exact e2a h hb
    ·match p,hp with
     |0,hp=>cases hp;exact⟨a5X h hn hi,fun iv fs=>a3y (a0i hm)⟩
   |true=>
    have e:D.spec n=if n<0∨40<n then 2 else if b0W (D.good n) D.abs.length 0=true∧(D.kind=3→D.abs.length=1)then 0 else 10:=by unfold Cx.spec;rw[if_neg (c:=D.isLong=true) (by rw[hl];simp),if_neg (c:=D.name.size=0∨D.body=false) (by rw[hb];rintro(h|h);exact hm' h;cases h)]
    rw[e]
    have hr:Rd vdC (D.v n) (fun _ _=>True) 0 0 (.int .i64 (if n<0∨40<n then 2 else if b0W (D.good n) D.abs.length 0=true∧(D.kind=3→D.abs.length=1)then 0 else 10)):=by
     have ent:a1b d7D (D.v n 0)=if n<0∨40<n then .ret (.int .i64 2)else if D.kind=3 then .goto 2 [.int .i64 0]else .goto 1 [.int .i64 0]:=by
      simp only[d7D,d0f,d0e,a1b]
      rw[e0,e1]
      by_cases h1:n≤ -1
      ·rw[if_pos h1,if_pos (by omega)]<;>try rfl
      ·rw[if_neg h1]
       by_cases h2:n≤40
       ·rw[if_pos h2,if_neg (c:=n<0∨40<n) (by omega)]<;>try rfl
        by_cases h3:D.kind≤2
        ·rw[if_pos h3,if_neg (by omega)]<;>try rfl
        ·rw[if_neg h3]
         by_cases h4:D.kind≤3
         ·rw[if_pos h4,if_pos (by omega)]<;>try rfl
         ·rw[if_neg h4,if_neg (by omega)]<;>try rfl
       ·rw[if_neg h2,if_pos (by omega)]<;>try rfl
     by_cases k1:n<0∨40<n
     ·rw[if_pos k1]at ent ⊢
      exact .ret (c:=c9E) rfl trivial ent
     ·rw[if_neg k1]at ent ⊢
      by_cases k3:D.kind=3
      ·rw[if_pos k3]at ent
       refine .zero (c:=c9E) rfl trivial ent ?_
       have s:=a5s (C:=vdC) (v:=D.v n) (I:=fun _ _=>True) (p:=2) (n:=D.abs.length) (j:=13) (k:=.i64) (c:=d2z) (g:=D.good n) (rB:=.int .i64 10) (rG:=.int .i64 (if D.abs.length=1 then 0 else 10)) rfl (fun _ _=>trivial)
        (fun i hi=>(a4F hi).trans (by
         have:=b9L (a1U d0l (v:=D.v n i))
         unfold Cx.good
         rw[decide_eq_true k3]
         exact this)) (.ret (c:=d2z) rfl trivial ((a3Q).trans (by
         simp only[d0d,a1b]
         rw[e11]
         by_cases g1:(D.abs.length:Int)≤0
         ·rw[if_pos g1,if_neg (by omega)]<;>try rfl
         ·rw[if_neg g1]
          by_cases g2:(D.abs.length:Int)≤1
          ·rw[if_pos g2,if_pos (by omega)]<;>try rfl
          ·rw[if_neg g2,if_neg (by omega)]<;>try rfl))) D.abs.length 0 (by omega)
       cases ha:b0W (D.good n) D.abs.length 0 with
       |true=>
        rw[ha]at s
        simp only[if_true]at s
        simp only[k3,true_and,forall_const]
        exact s
       |false=>rw[ha]at s;simpa using s
      ·rw[if_neg k3]at ent
       refine .zero (c:=c9E) rfl trivial ent ?_
       have s:=a5s (C:=vdC) (v:=D.v n) (I:=fun _ _=>True) (p:=1) (n:=D.abs.length) (j:=13) (k:=.i64) (c:=a8w) (g:=D.good n) (rB:=.int .i64 10) (rG:=.int .i64 0) rfl (fun _ _=>trivial)
        (fun i hi=>(a4F hi).trans (by
         have:=b9L (a1U d0m (v:=D.v n i))
         unfold Cx.good
         rw[decide_eq_false k3]
         exact this)) (.ret (c:=a8w) rfl trivial a3Q) D.abs.length 0 (by omega)
       cases ha:b0W (D.good n) D.abs.length 0 with
       |true=>
        rw[ha]at s
        simp only[if_true]at s
        simp only[k3,false_implies,and_true,if_true]
        exact s
       |false=>rw[ha]at s;simpa using s
    refine a2X (KT:=d4Y) d4X Try.func23 (by kernel_rfl) (args:=[a5d,si 0]) (by kernel_rfl) (c0:=c9E) rfl rfl (by kernel_rfl) rfl rfl (I:=fun _ _=>True) (n:=D.abs.length) (rho:=D.rho n) d0k rfl (fun i=>rfl) (fun i=>rfl) (fun i hi=>if_pos hi)
     (fun p c hp h0 i j=> ?_) (fun i hi e he=> ?_) (fun p c hp i hi _=> ?_) (fun ρ=>rfl) hr b2c
    ·match p,hp,h0 with
     |1,hp,_=>cases hp;exact a3M i j
     |2,hp,_=>cases hp;exact a3M i j
    ·simp only[d4Y,List.mem_cons,List.not_mem_nil,or_false]at he
     rcases he with rfl|rfl|rfl
     ·exact d7h h hl
     ·exact e2a h hb
     ·exact e4C h hn
    ·match p,hp with
     |0,hp=>cases hp;exact⟨a5X h hn hi,fun iv fs=>a3y (a0i hm)⟩
     |1,hp=>cases hp;exact⟨b0K h hn hi (hf i).1 (hf i).2,fun iv fs=>a1I h (a0i hm)⟩
     |2,hp=>cases hp;exact⟨b0K h hn hi (hf i).1 (hf i).2,fun iv fs=>a1I h (a0i hm)⟩
end
end
end Go.Proofs.Ytmmmknhdigapkaa.plq
namespace Go.Proofs.Ytmmmknhdigapkaa.plq
open Go.Ev Go.RowKit
set_option linter.unusedVariables false
noncomputable section
section
variable{D:Cx}{w:World}{n:Int}{i:Nat}
theorem d0b:a3H 5 12 11 13 0 waC=true:=by kernel_rfl
theorem d0Y:a3H 5 12 11 13 0 wbC=true:=by kernel_rfl
theorem d0R:a3H 7 12 11 13 0 wcC=true:=by kernel_rfl
theorem d0V:a9A (d5v 3 6 13) c3T=true:=by kernel_rfl
theorem d0T:a9A (d5v 5 4 13) c3O=true:=by kernel_rfl
theorem d0U:eqY (fun a b=>bEq (isGo a) (a8X 3 b)) c3T b8R a1t [(12,11,true)]=true:=by kernel_rfl
theorem d0S:eqY (fun a b=>bEq (isGo a) (a8X 5 b)) c3O b8Q a1t [(12,11,true)]=true:=by kernel_rfl
def b1V(q:Nat):Leaf→Bool
 |.goto q' xs=>match xs with
  | [.sint .i64 k]=>match Nat.beq q' q with
   |true=>Nat.beq k 13
   |false=>false
  |_=>false
 |.ret _=>false
theorem b0l{q:Nat}{o:Leaf}(h:b1V q o=true):o= .goto q [.sint .i64 13]:=by
 cases o with
 |goto q' xs=>
  simp only[b1V]at h
  split at h
  ·split at h
   ·rename_i h1
    rw[Nat.eq_of_beq_eq_true h1,Nat.eq_of_beq_eq_true h]
   ·cases h
  ·cases h
 |ret r=>simp[b1V]at h
theorem wa3:a9A (b1V 3) d0a=true:=by kernel_rfl
theorem wa4:a9A (b1V 4) d0Z=true:=by kernel_rfl
theorem wb3:a9A (b1V 3) d0X=true:=by kernel_rfl
theorem wb4:a9A (b1V 4) d0W=true:=by kernel_rfl
theorem wc4:a9A (b1V 4) d0L=true:=by kernel_rfl
theorem wc6:a9A (b1V 6) d0K=true:=by kernel_rfl
def b9g:TrX Leaf:=.cut 0 (-1) (.leaf (.ret (.int .i64 (2)))) (.cut 0 (40) (.cut 10 (16) (.cut 11 (4) (.leaf (.goto 1 [(.int .i64 (0))])) (.leaf (.goto 2 [(.int .i64 (0))]))) (.leaf (.goto 2 [(.int .i64 (0))]))) (.leaf (.ret (.int .i64 (2)))))
theorem d5z:a1b b9g (D.v n i)=if n<0∨40<n then .ret (.int .i64 2)else if(decide (D.name.size≤16)&&decide (D.abs.length≤4))=true then .goto 1 [.int .i64 0]else .goto 2 [.int .i64 0]:=by
 unfold b9g
 have l:=c0r (D:=D) (n:=n) (i:=i) (.cut 10 (16) (.cut 11 (4) (.leaf (.goto 1 [(.int .i64 (0))])) (.leaf (.goto 2 [(.int .i64 (0))]))) (.leaf (.goto 2 [(.int .i64 (0))]))) (.goto 1 [.int .i64 0]) (.goto 2 [.int .i64 0]) rfl
 have e: ∀(a b:Leaf) (t:TrX Leaf),a1b (.cut 0 (-1) (.leaf a) (.cut 0 40 t (.leaf b))) (D.v n i)=if n≤ -1 then a else if n≤40 then a1b t (D.v n i)else b:=fun a b t=>by
  simp only[a1b]
  rw[e0]
 rw[e,l]
 by_cases h1:n≤ -1
 ·rw[if_pos h1,if_pos (by omega)]<;>try rfl
 ·rw[if_neg h1]
  by_cases h2:n≤40
  ·rw[if_pos h2,if_neg (c:=n<0∨40<n) (by omega)]<;>try rfl
  ·rw[if_neg h2,if_pos (by omega)]<;>try rfl
theorem b8j{C:List CutP}{I:Nat→Nat→Prop}{c0 c1 c2:CutP}{r:VV}(h0:a0K C 0=some c0)(h1:a0K C 1=some c1)(h2:a0K C 2=some c2)(I0:I 0 0)(I1: ∀i,I 1 i)(I2: ∀i,I 2 i)(t0:c0.tr=b9g){R1:TrX Leaf}(t1:c1.tr= .rel .i64 12 11 (.cut 22 (2) (.cut 23 (32) (.leaf (.goto 1 [(.sint .i64 13)])) (.leaf (.goto 2 [(.sint .i64 13)]))) (.leaf (.goto 2 [(.sint .i64 13)]))) R1)
  (t2:c2.tr= .rel .i64 12 11 (.leaf (.goto 2 [(.sint .i64 13)])) (.leaf (.ret (.int .i64 (3))))) (hr:D.isLong=false→Rd C (D.v n) I 1 D.abs.length r):
  Rd C (D.v n) I 0 0 (if n<0∨40<n then .int .i64 2 else if D.isLong=true then .int .i64 3 else r):=by
 have ent:=d5z (D:=D) (n:=n) (i:=0)
 rw[←t0]at ent
 by_cases k1:n<0∨40<n
 ·rw[if_pos k1]at ent ⊢
  exact .ret h0 I0 ent
 ·rw[if_neg k1]at ent ⊢
  have end2:Rd C (D.v n) I 2 D.abs.length (.int .i64 3):=.ret h2 (I2 _) (by rw[t2];exact a3Q)
  have all2:=b3h (C:=C) (v:=D.v n) (I:=I) (p:=2) (n:=D.abs.length) (j:=13) (k:=.i64) h2 (fun i _=>I2 i) (fun i hi=>by rw[t2];exact a4F hi) end2
  cases hs:(decide (D.name.size≤16)&&decide (D.abs.length≤4))with
  |true=>
   rw[hs,if_pos rfl]at ent
   refine .zero h0 I0 ent ?_
   cases hf:b0W D.fine D.abs.length 0 with
   |true=>
    have hl:D.isLong=false:=by unfold Cx.isLong;rw[hs,hf];rfl
    rw[if_neg (by rw[hl];simp)]
    have s:=c0a (C:=C) (v:=D.v n) (I:=I) (p:=1) (q:=2) (n:=D.abs.length) (j:=13) (k:=.i64) (g:=D.fine) (rA:=r) (rB:=.int .i64 3) h1 h2 (fun i _=>I1 i) (fun i _=>I2 i) (fun i hi=>by rw[t1];exact(a4F hi).trans (a8Q _ _ _ rfl)) (fun i hi=>by rw[t2];exact a4F hi) (hr hl) end2 D.abs.length 0 (by omega)
    rw[hf]at s
    exact s
   |false=>
    have hl:D.isLong=true:=by unfold Cx.isLong;rw[hs,hf];rfl
    rw[if_pos hl]
    have bad: ∃m i,i+m+1=D.abs.length∧b0W D.fine i 0=true∧D.fine i=false:=by
     have key: ∀m i,b0W D.fine m i=false→ ∃k,i≤k∧k<i+m∧D.fine k=false∧ ∀l,i≤l→l<k→D.fine l=true:=by
      intro m
      induction m with
      |zero=>intro i h;simp[b0W]at h
      |succ m ih=>
       intro i h
       cases hg:D.fine i with
       |false=>exact⟨i,Nat.le_refl _,by omega,hg,fun l h1 h2=>by omega⟩
       |true=>
        simp only[b0W,hg,Bool.true_and]at h
        obtain⟨k,k1,k2,k3,k4⟩:=ih (i+1) h
        exact⟨k,by omega,by omega,k3,fun l h1 h2=>by
         by_cases e:l=i
         ·subst e;exact hg
         ·exact k4 l (by omega) h2⟩
     obtain⟨k,k1,k2,k3,k4⟩:=key _ _ hf
     exact⟨D.abs.length-k-1,k,by omega,a6k.2 fun l h1 h2=>k4 l h1 (by omega),k3⟩
    obtain⟨m,k,hk,ha,hb⟩:=bad
    have go: ∀j,j≤k→Rd C (D.v n) I 1 (k-j) (.int .i64 3):=by
     intro j
     induction j with
     |zero=>
      intro _
      exact .next h1 (I1 _) (by rw[t1];exact(a4F (by omega)).trans ((a8Q _ _ _ rfl).trans (by rw[Nat.sub_zero,hb];rfl))) (all2 m (k+1) (by omega))
     |succ j ih=>
      intro hj
      have hg:D.fine (k-(j+1))=true:=a6k.1 ha _ (Nat.zero_le _) (by omega)
      have:=ih (by omega)
      rw[show k-j=k-(j+1)+1 by omega]at this
      exact .next h1 (I1 _) (by rw[t1];exact(a4F (by omega)).trans ((a8Q _ _ _ rfl).trans (by rw[hg];rfl))) this
    have:=go k (Nat.le_refl _)
    rwa [Nat.sub_self]at this
  |false=>
   have hl:D.isLong=true:=by unfold Cx.isLong;rw[hs];simp
   rw[hs,if_neg (by simp)]at ent
   rw[if_pos hl]
   exact .zero h0 I0 ent (all2 D.abs.length 0 (by omega))
def b5E(a b:Leaf):TrX Leaf:=.cut 1 (2) (.leaf a) (.cut 1 (3) (.leaf b) (.leaf a))
theorem d1y(a b:Leaf):a1b (b5E a b) (D.v n i)=if D.kind=3 then b else a:=by
 unfold b5E
 simp only[a1b]
 rw[e1]
 by_cases h1:D.kind≤2
 ·rw[if_pos h1,if_neg (by omega)]<;>try rfl
 ·rw[if_neg h1]
  by_cases h2:D.kind≤3
  ·rw[if_pos h2,if_pos (by omega)]<;>try rfl
  ·rw[if_neg h2,if_neg (by omega)]<;>try rfl
theorem d5P{C:List CutP}{I:Nat→Nat→Prop}{c1 c3 c4:CutP}(h1:a0K C 1=some c1)(h3:a0K C 3=some c3)(h4:a0K C 4=some c4)(I1: ∀i,I 1 i)(I3: ∀i,I 3 i)(I4: ∀i,I 4 i){L1 L3 L4:TrX Leaf}(t1:c1.tr= .rel .i64 12 11 L1 (b5E (.goto 3 [(.int .i64 0)]) (.goto 4 [(.int .i64 0)])))
  (t3:c3.tr= .rel .i64 12 11 L3 (.leaf (.ret (.int .i64 10)))) (t4:c4.tr= .rel .i64 12 11 L4 (.leaf (.ret (.int .i64 10)))) (a3:a9A (b1V 3) L3=true) (a4:a9A (b1V 4) L4=true):Rd C (D.v n) I 1 D.abs.length (.int .i64 10):=by
 have all3:=b3h (C:=C) (v:=D.v n) (I:=I) (p:=3) (n:=D.abs.length) (j:=13) (k:=.i64) h3 (fun i _=>I3 i) (fun i hi=>by rw[t3];exact(a4F hi).trans (b0l (a1U a3))) (.ret h3 (I3 _) (by rw[t3];exact a3Q)) D.abs.length 0 (by omega)
 have all4:=b3h (C:=C) (v:=D.v n) (I:=I) (p:=4) (n:=D.abs.length) (j:=13) (k:=.i64) h4 (fun i _=>I4 i) (fun i hi=>by rw[t4];exact(a4F hi).trans (b0l (a1U a4))) (.ret h4 (I4 _) (by rw[t4];exact a3Q)) D.abs.length 0 (by omega)
 have e:a1b c1.tr (D.v n D.abs.length)=if D.kind=3 then .goto 4 [.int .i64 0]else .goto 3 [.int .i64 0]:=by rw[t1];exact a3Q.trans (d1y _ _)
 by_cases hk:D.kind=3
 ·rw[if_pos hk]at e
  exact .zero h1 (I1 _) e all4
 ·rw[if_neg hk]at e
  exact .zero h1 (I1 _) e all3
theorem c4J{a b c:Int}{p q:Prop}[Decidable p][Decidable q]:(if p then VV.int .i64 a else if q then .int .i64 b else .int .i64 c)= .int .i64 (if p then a else if q then b else c):=by
 split
 ·rfl
 ·split<;>rfl
theorem d9b(h:D.OK w)(hn:I64 n)(hl:D.isLong=false)(hk:D.kind≠3)(hi:i<D.abs.length):a8X 3 (a1b c3T (D.v n i))=D.good n i:=by
 obtain⟨_,hf⟩:=a4H hl
 have hv:VOK a1t [(12,11,true)] (D.v n i):=⟨b0K h hn (by omega) (hf i).1 (hf i).2,fun p hp=>by
  simp only[List.mem_singleton]at hp
  subst hp
  exact decide_eq_true (show(i:Int)<(D.abs.length:Int)by omega)⟩
 unfold Cx.good
 rw[decide_eq_false hk]
 exact(b7q (a5Y (p:=fun a b=>bEq (isGo a) (a8X 3 b)) d0U hv)).symm
theorem d9Z(h:D.OK w)(hn:I64 n)(hl:D.isLong=false)(hk:D.kind=3)(hi:i<D.abs.length):a8X 5 (a1b c3O (D.v n i))=D.good n i:=by
 obtain⟨_,hf⟩:=a4H hl
 have hv:VOK a1t [(12,11,true)] (D.v n i):=⟨b0K h hn (by omega) (hf i).1 (hf i).2,fun p hp=>by
  simp only[List.mem_singleton]at hp
  subst hp
  exact decide_eq_true (show(i:Int)<(D.abs.length:Int)by omega)⟩
 unfold Cx.good
 rw[decide_eq_true hk]
 exact(b7q (a5Y (p:=fun a b=>bEq (isGo a) (a8X 5 b)) d0S hv)).symm
theorem d6Q(h:D.OK w)(hn:I64 n):Calls Try.prog 25 #[D.val,.int .i64 n] w fun e w'=>e= .returned (.int .i64 (D.spec n))∧Below w.heap.size w w':=by
 cases hm:decide (D.name.size=0)with
 |true=>
  have e:D.spec n=if n<0∨40<n then 2 else if D.isLong=true then 3 else 10:=by unfold Cx.spec;rw[if_pos (c:=D.name.size=0∨D.body=false) (.inl (of_decide_eq_true hm))]
  rw[e]
  have hr:=b8j (D:=D) (n:=n) (C:=waC) (I:=fun p _=>p<3∨D.isLong=false) (c0:=d2y) (c1:=d2x) (c2:=d4Q) (r:=.int .i64 10) rfl rfl rfl (.inl (by decide)) (fun _=>.inl (by decide)) (fun _=>.inl (by decide)) rfl rfl rfl (fun hl=>d5P (C:=waC) (c1:=d2x) (c3:=d4P) (c4:=d4O) rfl rfl rfl (fun _=>.inl (by decide)) (fun _=>.inr hl) (fun _=>.inr hl) rfl rfl rfl wa3 wa4)
  rw[c4J]at hr
  refine a2X (KT:=d7C) d4R Try.func25 (by kernel_rfl) (args:=[a5d,si 0]) (by kernel_rfl) (c0:=d2y) rfl rfl (by kernel_rfl) rfl rfl (n:=D.abs.length) (rho:=D.rho n) d0b rfl (fun i=>rfl) (fun i=>rfl) (fun i hi=>if_pos hi)
   (fun p c hp h0 i j=> ?_) (fun i hi e he=>by cases he) (fun p c hp i hi hI=> ?_) (fun ρ=>rfl) hr b2c
  ·match p,hp,h0 with
   |1,hp,_=>cases hp;exact a3M i j
   |2,hp,_=>cases hp;exact a3M i j
   |3,hp,_=>cases hp;exact a3M i j
   |4,hp,_=>cases hp;exact a3M i j
  ·have nar: ¬p<3→IvOK a1t (D.rho n i):=fun h3=>by
    have hl:=hI.resolve_left h3
    obtain⟨_,hf⟩:=a4H hl
    exact b0K h hn hi (hf i).1 (hf i).2
   match p,hp with
   |0,hp=>cases hp;exact⟨a5X h hn hi,fun iv fs=>a3y (a0i hm)⟩
   |1,hp=>cases hp;exact⟨b2D h hn hi,fun iv fs=>a1I h (a0i hm)⟩
   |2,hp=>cases hp;exact⟨b2D h hn hi,fun iv fs=>a1I h (a0i hm)⟩
   |3,hp=>cases hp;exact⟨nar (by decide),fun iv fs=>a1I h (a0i hm)⟩
   |4,hp=>cases hp;exact⟨nar (by decide),fun iv fs=>a1I h (a0i hm)⟩
 |false=>
  have hm':=of_decide_eq_false hm
  cases hb:D.body with
  |false=>
   have e:D.spec n=if n<0∨40<n then 2 else if D.isLong=true then 3 else 10:=by unfold Cx.spec;rw[if_pos (c:=D.name.size=0∨D.body=false) (.inr hb)]
   rw[e]
   have hr:=b8j (D:=D) (n:=n) (C:=wbC) (I:=fun p _=>p<3∨D.isLong=false) (c0:=d2w) (c1:=d2v) (c2:=d4D) (r:=.int .i64 10) rfl rfl rfl (.inl (by decide)) (fun _=>.inl (by decide)) (fun _=>.inl (by decide)) rfl rfl rfl (fun hl=>d5P (C:=wbC) (c1:=d2v) (c3:=d4C) (c4:=d4B) rfl rfl rfl (fun _=>.inl (by decide)) (fun _=>.inr hl) (fun _=>.inr hl) rfl rfl rfl wb3 wb4)
   rw[c4J]at hr
   refine a2X (KT:=d4F) d4E Try.func25 (by kernel_rfl) (args:=[a5d,si 0]) (by kernel_rfl) (c0:=d2w) rfl rfl (by kernel_rfl) rfl rfl (n:=D.abs.length) (rho:=D.rho n) d0Y rfl (fun i=>rfl) (fun i=>rfl) (fun i hi=>if_pos hi)
    (fun p c hp h0 i j=> ?_) (fun i hi e he=> ?_) (fun p c hp i hi hI=> ?_) (fun ρ=>rfl) hr b2c
   ·match p,hp,h0 with
    |1,hp,_=>cases hp;exact a3M i j
    |2,hp,_=>cases hp;exact a3M i j
    |3,hp,_=>cases hp;exact a3M i j
    |4,hp,_=>cases hp;exact a3M i j
   ·simp only[d4F,List.mem_singleton]at he
    subst he
    exact e2Z h hb
   ·have nar: ¬p<3→IvOK a1t (D.rho n i):=fun h3=>by
     have hl:=hI.resolve_left h3
     obtain⟨_,hf⟩:=a4H hl
     exact b0K h hn hi (hf i).1 (hf i).2
    match p,hp with
    |0,hp=>cases hp;exact⟨a5X h hn hi,fun iv fs=>a3y (a0i hm)⟩
    |1,hp=>cases hp;exact⟨b2D h hn hi,fun iv fs=>a1I h (a0i hm)⟩
    |2,hp=>cases hp;exact⟨b2D h hn hi,fun iv fs=>a1I h (a0i hm)⟩
    |3,hp=>cases hp;exact⟨nar (by decide),fun iv fs=>a1I h (a0i hm)⟩
    |4,hp=>cases hp;exact⟨nar (by decide),fun iv fs=>a1I h (a0i hm)⟩
  |true=>
   have e:D.spec n=if n<0∨40<n then 2 else if D.isLong=true then 3 else if b0W (D.good n) D.abs.length 0=true∧(D.kind=3→D.abs.length=1)then 0 else 10:=by unfold Cx.spec;rw[if_neg (c:=D.name.size=0∨D.body=false) (by rw[hb];rintro(h|h);exact hm' h;cases h)]
   rw[e]
   have hr:=b8j (D:=D) (n:=n) (C:=wcC) (I:=fun p _=>p<3∨D.isLong=false) (c0:=d2u) (c1:=c6q) (c2:=d3q) (r:=.int .i64 (if b0W (D.good n) D.abs.length 0=true∧(D.kind=3→D.abs.length=1)then 0 else 10)) rfl rfl rfl (.inl (by decide)) (fun _=>.inl (by decide)) (fun _=>.inl (by decide)) rfl rfl rfl (fun hl=>by
    have ent:a1b c6q.tr (D.v n D.abs.length)=if D.kind=3 then(if D.abs.length=1 then .goto 5 [.int .i64 0]else .goto 4 [.int .i64 0])else .goto 3 [.int .i64 0]:=by
     refine Eq.trans (b:=a1b c6c (D.v n D.abs.length)) a3Q ?_
     simp only[c6c,a1b]
     rw[e1,e11]
     by_cases h1:D.kind≤2
     ·rw[if_pos h1,if_neg (by omega)]<;>try rfl
     ·rw[if_neg h1]
      by_cases h2:D.kind≤3
      ·rw[if_pos h2,if_pos (c:=D.kind=3) (by omega)]<;>try rfl
       by_cases g1:(D.abs.length:Int)≤0
       ·rw[if_pos g1,if_neg (by omega)]<;>try rfl
       ·rw[if_neg g1]
        by_cases g2:(D.abs.length:Int)≤1
        ·rw[if_pos g2,if_pos (by omega)]<;>try rfl
        ·rw[if_neg g2,if_neg (by omega)]<;>try rfl
      ·rw[if_neg h2,if_neg (by omega)]<;>try rfl
    have no4:Rd wcC (D.v n) (fun p _=>p<3∨D.isLong=false) 4 D.abs.length (.int .i64 10):=.ret (c:=c8w) rfl (.inr hl) a3Q
    have no6:Rd wcC (D.v n) (fun p _=>p<3∨D.isLong=false) 6 D.abs.length (.int .i64 10):=.ret (c:=d0Q) rfl (.inr hl) a3Q
    have st4: ∀i,i<D.abs.length→a1b c8w.tr (D.v n i)= .goto 4 [.sint .i64 13]:=fun i hi=>(a4F hi).trans (b0l (a1U wc4))
    have st6: ∀i,i<D.abs.length→a1b d0Q.tr (D.v n i)= .goto 6 [.sint .i64 13]:=fun i hi=>(a4F hi).trans (b0l (a1U wc6))
    by_cases hk:D.kind=3
    ·rw[if_pos hk]at ent
     by_cases h1:D.abs.length=1
     ·rw[if_pos h1]at ent
      refine .zero (c:=c6q) rfl (.inr hl) ent ?_
      have s:=c0a (C:=wcC) (v:=D.v n) (I:=fun p _=>p<3∨D.isLong=false) (p:=5) (q:=4) (n:=D.abs.length) (j:=13) (k:=.i64) (c:=c8v) (d:=c8w) (g:=D.good n) (rA:=.int .i64 0) (rB:=.int .i64 10) rfl rfl (fun i _=>.inr hl) (fun i _=>.inr hl)
       (fun i hi=>(a4F hi).trans (by rw[←d9Z h hn hl hk hi];exact c5S (a1U d0T))) st4 (.ret (c:=c8v) rfl (.inr hl) a3Q) no4 D.abs.length 0 (by omega)
      cases ha:b0W (D.good n) D.abs.length 0 with
      |true=>rw[ha]at s;simpa[h1]using s
      |false=>rw[ha]at s;simpa using s
     ·rw[if_neg h1]at ent
      refine .zero (c:=c6q) rfl (.inr hl) ent ?_
      rw[if_neg (fun k=>h1 (k.2 hk))]
      exact b3h (C:=wcC) (v:=D.v n) (p:=4) (n:=D.abs.length) (j:=13) (k:=.i64) (c:=c8w) rfl (fun i _=>.inr hl) st4 no4 D.abs.length 0 (by omega)
    ·rw[if_neg hk]at ent
     refine .zero (c:=c6q) rfl (.inr hl) ent ?_
     have s:=c0a (C:=wcC) (v:=D.v n) (I:=fun p _=>p<3∨D.isLong=false) (p:=3) (q:=6) (n:=D.abs.length) (j:=13) (k:=.i64) (c:=a2M) (d:=d0Q) (g:=D.good n) (rA:=.int .i64 0) (rB:=.int .i64 10) rfl rfl (fun i _=>.inr hl) (fun i _=>.inr hl)
      (fun i hi=>(a4F hi).trans (by rw[←d9b h hn hl hk hi];exact c5S (a1U d0V))) st6 (.ret (c:=a2M) rfl (.inr hl) a3Q) no6 D.abs.length 0 (by omega)
     cases ha:b0W (D.good n) D.abs.length 0 with
     |true=>rw[ha]at s;simpa[hk]using s
     |false=>rw[ha]at s;simpa using s)
   rw[c4J]at hr
   refine a2X (KT:=d3s) d3r Try.func25 (by kernel_rfl) (args:=[a5d,si 0]) (by kernel_rfl) (c0:=d2u) rfl rfl (by kernel_rfl) rfl rfl (n:=D.abs.length) (rho:=D.rho n) d0R rfl (fun i=>rfl) (fun i=>rfl) (fun i hi=>if_pos hi)
    (fun p c hp h0 i j=> ?_) (fun i hi e he=> ?_) (fun p c hp i hi hI=> ?_) (fun ρ=>rfl) hr b2c
   ·match p,hp,h0 with
    |1,hp,_=>cases hp;exact a3M i j
    |2,hp,_=>cases hp;exact a3M i j
    |3,hp,_=>cases hp;exact a3M i j
    |4,hp,_=>cases hp;exact a3M i j
    |5,hp,_=>cases hp;exact a3M i j
    |6,hp,_=>cases hp;exact a3M i j
   ·simp only[d3s,List.mem_cons,List.not_mem_nil,or_false]at he
    rcases he with rfl|rfl
    ·exact e2Z h hb
    ·exact e4D h hn
   ·have nar: ¬p<3→IvOK a1t (D.rho n i):=fun h3=>by
     have hl:=hI.resolve_left h3
     obtain⟨_,hf⟩:=a4H hl
     exact b0K h hn hi (hf i).1 (hf i).2
    match p,hp with
    |0,hp=>cases hp;exact⟨a5X h hn hi,fun iv fs=>a3y (a0i hm)⟩
    |1,hp=>cases hp;exact⟨b2D h hn hi,fun iv fs=>a1I h (a0i hm)⟩
    |2,hp=>cases hp;exact⟨b2D h hn hi,fun iv fs=>a1I h (a0i hm)⟩
    |3,hp=>cases hp;exact⟨nar (by decide),fun iv fs=>a1I h (a0i hm)⟩
    |4,hp=>cases hp;exact⟨nar (by decide),fun iv fs=>a1I h (a0i hm)⟩
    |5,hp=>cases hp;exact⟨nar (by decide),fun iv fs=>a1I h (a0i hm)⟩
    |6,hp=>cases hp;exact⟨nar (by decide),fun iv fs=>a1I h (a0i hm)⟩
end
end
end Go.Proofs.Ytmmmknhdigapkaa.plq
