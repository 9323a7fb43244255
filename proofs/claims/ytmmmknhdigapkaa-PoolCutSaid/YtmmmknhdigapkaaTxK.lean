/-
  wire.Num: what it tells.
-/
import Derived.Test.YtmmmknhdigapkaaTxJ
import Derived.WalkKit
namespace Go.Proofs.Ytmmmknhdigapkaa.poolCut
open Go.Ev Go.RowKit Go.Proofs.Ytmmmknhdigapkaa.poolS
set_option linter.unusedVariables false
noncomputable section
def c6k:ByteArray:=match d9Z with
 |.sidx (.string t) _ _=>t|_=>.empty
def lzV(x:Int):Int:=IntKind.i64.wrap (8-((c6k.data.toList.getD x.toNat 0).toNat:Int))
theorem e1P:d9Z= .sidx (.string c6k) (.sint .u8 0) (.bin .sub .i64 (.int .i64 8) (.sint .i64 1) (.ret [.v (.sint .i64 2)])):=by kernel_rfl
theorem c3t:(c6k.size:Int)=256:=by
 have:decide (c6k.size=256)=true:=by kernel_rfl
 have:=of_decide_eq_true this;omega
def c6Q(o:Option Int)(x:Int):Bool:=match o with
 |some y=>decide (y=x)
 |none=>false
theorem b4y{o:Option Int}{x:Int}(h:c6Q o x=true):o=some x:=by
 unfold c6Q at h;split at h
 ·rw[of_decide_eq_true h]
 ·cases h
def d1o(b:Nat):Bool:=c6Q (uop .xor .u8 b) (255-b)&&decide (lzV (255-b)=lead b)&&c6Q (aop .shr .u8 255 (lead b)) ((255:Int).fdiv (2^b6e .u8 (lead b)))&&c6Q (aop .and .u8 b ((255:Int).fdiv (2^b6e .u8 (lead b)))) (a4b b)&&decide (lead b≤8)&&decide (0≤a4b b)&&decide (a4b b<128)&&(decide (lead b≤7)||decide (a4b b=0))
theorem d0b:((List.range 256).all d1o)=true:=by kernel_rfl
structure Byte(b:Int):Prop where
 xor:uop .xor .u8 b=some (255-b)
 lz:lzV (255-b)=lead b
 shr:aop .shr .u8 255 (lead b)=some ((255:Int).fdiv (2^b6e .u8 (lead b)))
 and:aop .and .u8 b ((255:Int).fdiv (2^b6e .u8 (lead b)))=some (a4b b)
 l8:lead b≤8
 lo:0≤a4b b
 hi:a4b b<128
 l7:lead b≤7∨a4b b=0
theorem byte_of{b:Int}(h0:0≤b)(h1:b<256):Byte b:=by have h:=List.all_eq_true.1 d0b b.toNat (List.mem_range.2 (by omega));unfold d1o at h;rw[show((b.toNat:Nat):Int)=b by omega]at h;simp only[Bool.and_eq_true,decide_eq_true_eq,Bool.or_eq_true]at h;obtain⟨⟨⟨⟨⟨⟨⟨a1,a2⟩,a3⟩,a4⟩,a5⟩,a6⟩,a7⟩,a8⟩:=h;exact⟨b4y a1,a2,b4y a3,b4y a4,a5,a6,a7,a8⟩
theorem wrap_u64{n:Int}(h0:0≤n)(h1:n<18446744073709551616):IntKind.u64.wrap n=n:=by rw[IntKind.wrap_u64];omega
theorem e3s{x:Int}(h0:0≤x)(h1:x<72057594037927936):aop .shl .u64 x 8=some (x*256):=by show some (IntKind.u64.wrap (x*2^8))=_;rw[wrap_u64 (by omega) (by omega)];rfl
theorem or8{x c:Int}(h0:0≤x)(h1:x<72057594037927936)(c0:0≤c)(c1:c<256):aop .or .u64 (x*256) c=some (x*256+c):=by
 show some (IntKind.u64.wrap ((BitVec.ofInt 64 (x*256)|||BitVec.ofInt 64 c).toNat:Int))=_;rw[BitVec.toNat_or,a4a (by omega) (by omega),a4a (by omega) (by omega)]
 have e:(x*256).toNat=x.toNat<<<8:=by rw[Nat.shiftLeft_eq];omega
 rw[e,←Nat.shiftLeft_add_eq_or_of_lt (by omega:c.toNat<2^8),Nat.shiftLeft_eq];rw[wrap_u64 (by omega) (by omega)]
 congr 1
 omega
theorem e3q{n:Int}{k:Nat}(h0:0≤n)(hk:k≤8):aop .shr .u64 n (7*k)=some (n/2^(7*k)):=by
 have e:b6e .u64 (7*(k:Int))=7*k:=by show min (7*(k:Int)).toNat 64=_;omega
 show(if(7*(k:Int))<0 then none else some (n.fdiv (2^b6e .u64 (7*(k:Int)))))=_;rw[if_neg (by omega),e,Int.fdiv_eq_ediv_of_nonneg _ (Int.pow_nonneg (by decide))]
theorem e1D{m n:Nat}(h:m≤n):(256:Int)^m≤256^n:=by
 have e: ∀k:Nat,(256:Int)^k=((256^k:Nat):Int):=fun k=>by rw[Int.natCast_pow];rfl
 rw[e,e];exact Int.ofNat_le.2 (Nat.pow_le_pow_right (by decide) h)
theorem d2V{b:Int}(h0:0≤b)(h1:b<256){t:List Int}(ht: ∀c∈t,0≤c∧c<256){m:Nat}(hm:m<lead b):0≤a7o (a4b b) (t.take m)∧a7o (a4b b) (t.take m)<72057594037927936:=by
 obtain⟨_,_,_,_,l8,lo,hi,l7⟩:=byte_of h0 h1;obtain⟨v0,v1⟩:=b9o (t:=t.take m) (a:=a4b b) (fun c hc=>ht c (List.mem_of_mem_take hc)) lo;refine⟨v0,Int.lt_of_lt_of_le v1 ?_⟩;have hl:(t.take m).length≤m:=List.length_take_le m t;have hp:(256:Int)^(t.take m).length≤256^m:=e1D hl;rcases l7 with l7|l7
 ·have h6:(256:Int)^m≤256^6:=e1D (show m≤6 by omega);have:=Int.mul_le_mul (show a4b b+1≤128 by omega) (Int.le_trans hp h6) (Int.pow_nonneg (by decide)) (by decide);exact Int.le_trans this (by decide)
 ·have h7:(256:Int)^m≤256^7:=e1D (show m≤7 by omega);rw[l7,Int.zero_add,Int.one_mul];exact Int.le_trans (Int.le_trans hp h7) (by decide)
theorem c5C{a c:Int}{t:List Int}:a7o a (t++ [c])=a7o a t*256+c:=by simp[a7o]
theorem c9i{w:World}{x:Int}(h:TyL [.i .u8] [.i .u8 x])(hx:x<256)(h0:0≤x):Calls Try.prog 81 ⟨a3e lz.psh [.i .u8 x]⟩ w fun e w'=> ∃gs,gs= [.i .i64 (lzV x)]∧e= .returned (a8w lz.rs gs)∧TyL (a0F lz.rs) gs∧GML (a0W w' []) gs∧Below w.heap.size w w':=by
 refine a3n hng mixed (a8u (l:=[]) (fun c hc=>by cases hc)) (b9c (l:=[]) (fun c hc=>by cases hc)) Try.func81 e1O (fun _ _=>False) (fun _ _=>0) (fun gs=>gs= [.i .i64 (lzV x)]) ?_ (fun q hq=>by cases hq) (fun q hq=>by cases hq) (fun q hq=>by cases hq) (fun q hq=>by cases hq) (L:=[]) (fun b hb=>by cases hb) h (show GML w [.i .u8 x]from⟨by simp only[GM],trivial⟩);show wp (Cs []) d9Z _ _;rw[e1P];refine b9l h0 ?_ (c4u (a0c ?_))
 ·show x<(c6k.size:Int);rw[c3t];exact hx
 ·rfl
def cLz:Ct:=⟨81,[.d (.i .u8)],[.d (.i .i64)],fun _=>True,fun gs=>[.i .i64 (lzV (gs.getD 0 .d).int)]⟩
theorem d7B(x:Int): -9223372036854775808≤lzV x∧lzV x≤9223372036854775807:=by show IntKind.i64.min≤IntKind.i64.wrap _∧_≤IntKind.i64.max;exact a7r _ _
theorem d8M:CtOK Try.prog cLz:=by
 refine⟨rfl,fun gs ht _=> ?_,fun w gs ht hm _=> ?_⟩
 ·show TyL [.i .i64] [.i .i64 _];exact⟨⟨rfl,d7B _⟩,trivial⟩
 ·obtain⟨g,l,rfl,t,h0⟩:=tyC ht;obtain⟨n,rfl,n0,n1⟩:=tyI t;obtain rfl:=tyN h0;have n1:n≤255:=n1;have n0:0≤n:=n0;refine(c9i ht (by omega) n0).mono ?_;rintro e w' ⟨gs,rfl,he,_,_,hb⟩;exact⟨he,hb⟩
theorem e2d: ∀c∈ [cLz],CtOK Try.prog c:=by intro c hc;rw[List.mem_singleton.1 hc];exact d8M
theorem d2B:a2H Try.prog (Cs [cLz]) (Dso []) Try.f68 e3Y=true:=by kernel_rfl
def d3g(j:Nat):Vt:=.lss (.int .i64 0) (.sint .i64 6)
 (.bin .mul .i64 (.int .i64 7) (.sint .i64 6) (.bin .shr .u64 (.sint .u64 j) (.sint .i64 (j+1)) (.eql (.sint .u64 (j+2)) (.int .u64 0)
  (.ret [.v (.int .u64 0),.v (.sym 0),.v (.sint .i64 3),.v (.bool true)])
  (.bin .add .i64 (.int .i64 1) (.sint .i64 6) (.bin .add .i64 (.sint .i64 1) (.sint .i64 (j+3)) (.ret [.v (.sint .u64 j),.v (.sym 0),.v (.sint .i64 (j+4)),.v (.sym 2)]))))))
 (.bin .add .i64 (.int .i64 1) (.sint .i64 6) (.bin .add .i64 (.sint .i64 1) (.sint .i64 (j+1)) (.ret [.v (.sint .u64 j),.v (.sym 0),.v (.sint .i64 (j+2)),.v (.sym 2)])))
def e1J:Nat→Nat→Nat→Vt
 |0,i,j=>.lss (.sint .i64 6) (.int .i64 i) (d3g j) .no|f+1,i,j=>.lss (.sint .i64 6) (.int .i64 i) (d3g j) (.bin .shl .u64 (.sint .u64 j) (.int .u64 8) (.bin .add .i64 (.sint .i64 1) (.int .i64 i) (.sidx (.sym 0) (.sint .i64 (j+2)) (.bin .or .u64 (.sint .u64 (j+1)) (.sint .u64 (j+3)) (e1J f (i+1) (j+4))))))
def d2h:Vt:=.ret [.v (.int .u64 0),.v (.sym 0),.v (.sint .i64 3),.v (.bool true)]
theorem d2C:c4r= .slen (.sym 0) (.lss (.sint .i64 1) (.sint .i64 3) (.sidx (.sym 0) (.sint .i64 1) (.un .xor .u8 (.sint .u8 4) (.call 0 [.sint .u8 5] (.bin .sub .i64 (.sint .i64 3) (.sint .i64 1) (.lss (.sint .i64 6) (.sint .i64 7)
  (.bin .shr .u8 (.int .u8 255) (.sint .i64 6) (.bin .and .u8 (.sint .u8 4) (.sint .u8 8) (e1J 8 1 9))) d2h))))) d2h):=by kernel_rfl
structure NS(s:ByteArray)(a b:Int)(t:List Int)(i j:Nat)(σ:List G):Prop where
 len:σ.length=j+1
 j6:6<j
 g0:σ.getD 0 .d= .s s
 g1:(σ.getD 1 .d).int=a
 g2:σ.getD 2 .d= .b false
 g3:(σ.getD 3 .d).int=s.size
 g6:(σ.getD 6 .d).int=lead b
 gj:(σ.getD j .d).int=a7o (a4b b) (t.take (i-1))
structure NA(s:ByteArray)(a b:Int)(t:List Int):Prop where
 lo:0≤a
 eq:rest s a=b::t
 sz:(s.size:Int)=a+1+t.length
 mx:(s.size:Int)≤9223372036854775807
 b0:0≤b
 b1:b<256
 ht: ∀c∈t,0≤c∧c<256
 ll:lead b≤t.length
def NR(s:ByteArray)(a:Int)(us:List G):Prop:=(∃n r a',pU (rest s a)=some (n,r)∧us= .i .u64 n::st3 s a' false∧At s a' r)∨(pU (rest s a)=none∧us= .i .u64 0::st3 s s.size true)
section
variable{s:ByteArray}{a b:Int}{t:List Int}{C:Nat→Ct}{Q:Res→Prop}
theorem a4J(s:ByteArray):(numsOf s).length=s.size:=by unfold numsOf;rw[List.length_map];rfl
theorem b6h{s:ByteArray}{a:Int}(h:0≤a)(k:Nat):(rest s a).drop k=rest s (a+k):=by
 unfold rest;rw[List.drop_drop]
 congr 1
 omega
theorem wrp{n:Int}(h0: -9223372036854775808≤n)(h1:n≤9223372036854775807):IntKind.i64.wrap n=n:=b1f h0 h1
theorem c2E(A:NA s a b t){i j:Nat}{σ:List G}(S:NS s a b t i j σ)(hi:i=lead b+1)(hQ: ∀us,NR s a us→Q (.ret us)):wp C (d3g j) σ Q:=by
 obtain⟨len,j6,g0,g1,g2,g3,g6,gj⟩:=S;obtain⟨a0,he,hsz,mx,b0,b1,ht,ll⟩:=A;have B:=byte_of b0 b1;have l8:=B.l8;rw[hi,Nat.add_sub_cancel]at gj;generalize hn:a7o (a4b b) (t.take (lead b))=n at gj
 have hU:U64 n∨lead b=0∨n<2^(7*lead b):=by
  rcases Nat.eq_zero_or_pos (lead b)with h|h
  ·exact .inr (.inl h)
  ·by_cases hc:n<2^(7*lead b)
   ·exact .inr (.inr hc)
   ·left;have:=c6R b0 b1 (t:=t.take (lead b)) (by rw[List.length_take];omega) (fun c hc=>ht c (List.mem_of_mem_take hc)) (fun _=>by rw[List.length_take,Nat.min_eq_left ll,hn];omega);rw[hn]at this;exact this.2
 have n0:0≤n:=by rw[←hn];exact(b9o (fun c hc=>ht c (List.mem_of_mem_take hc)) B.lo).1
 have atK:At s (a+(1+lead b)) (t.drop (lead b)):=by
  refine⟨by omega,by omega, ?_⟩;have:=b6h (s:=s) a0 (1+lead b);rw[he,Nat.add_comm,List.drop_succ_cons]at this;rw[this]
  congr 1
  omega
 have good:(lead b=0∨ ¬n<2^(7*lead b))→pU (rest s a)=some (n,t.drop (lead b)):=fun h=>by rw[he];simp only[pU];rw[if_pos ll,if_neg (by rw[hn];omega),hn]
 have g1': ∀τ,((σ++τ).getD 1 .d).int=a:=fun τ=>by rw[a0N (by omega)];exact g1
 have g6': ∀τ,((σ++τ).getD 6 .d).int=lead b:=fun τ=>by rw[a0N (by omega)];exact g6
 have g0': ∀τ,(σ++τ).getD 0 .d= .s s:=fun τ=>by rw[a0N (by omega)];exact g0
 have g2': ∀τ,(σ++τ).getD 2 .d= .b false:=fun τ=>by rw[a0N (by omega)];exact g2
 have gj': ∀τ,((σ++τ).getD j .d).int=n:=fun τ=>by rw[a0N (by omega)];exact gj
 refine a0w (fun h=> ?_) fun h=> ?_
 ·have h:0<(σ.getD 6 .d).int:=h;rw[g6]at h;refine d5n ?_
  have e1:(gG σ (.int .i64 7)).int*(gG σ (.sint .i64 6)).int=7*(lead b:Int):=by show 7*(σ.getD 6 .d).int=_;rw[g6]
  rw[e1,wrp (by omega) (by omega)];refine⟨n/2^(7*lead b), ?_, ?_⟩
  ·show aop .shr .u64 ((σ++ [_]).getD j .d).int ((σ++ [_]).getD (j+1) .d).int=_;rw[gj',show j+1=σ.length by omega,a1W];exact e3q n0 l8
  refine a0r (fun h2=> ?_) fun h2=> ?_
  ·have h2:((σ++ [G.i .i64 (7*(lead b:Int))]++ [G.i .u64 (n/2^(7*lead b))]).getD (j+2) .d).int=0:=h2;rw[show j+2=(σ++ [G.i .i64 (7*(lead b:Int))]).length by simp;omega,a1W]at h2;have h2:n/2^(7*lead b)=0:=h2;have hp:(0:Int)<2^(7*lead b):=Int.pow_pos (by decide)
   have hlt:n<2^(7*lead b):=by
    rcases Int.lt_or_le n (2^(7*lead b))with h|h
    ·exact h
    ·have:=(Int.le_ediv_iff_mul_le hp (a:=1) (b:=n)).2 (by rw[Int.one_mul];exact h);omega
   refine a0c ?_;show Q (.ret [.i .u64 0,(σ++ [_]++ [_]).getD 0 .d,.i .i64 ((σ++ [_]++ [_]).getD 3 .d).int,.b true]);rw[List.append_assoc,g0',a0N (by omega),g3];refine hQ _ (.inr ⟨?_,rfl⟩);rw[he];simp only[pU];rw[if_pos ll,if_pos ⟨by omega,by rw[hn];exact hlt⟩]
  ·have h2:((σ++ [G.i .i64 (7*(lead b:Int))]++ [G.i .u64 (n/2^(7*lead b))]).getD (j+2) .d).int≠0:=h2;rw[show j+2=(σ++ [G.i .i64 (7*(lead b:Int))]).length by simp;omega,a1W]at h2;have h2:n/2^(7*lead b)≠0:=h2;have hge: ¬n<2^(7*lead b):=fun hlt=>h2 (Int.ediv_eq_zero_of_lt n0 hlt);rw[List.append_assoc];generalize hτ:([G.i .i64 (7*(lead b:Int))]++ [G.i .u64 (n/2^(7*lead b))])=τ;have hl:(σ++τ).length=j+3:=by subst hτ;simp;omega
   refine a1F ?_
   have e2:(gG (σ++τ) (.int .i64 1)).int+(gG (σ++τ) (.sint .i64 6)).int=1+(lead b:Int):=by show 1+((σ++τ).getD 6 .d).int=_;rw[g6']
   rw[e2,wrp (by omega) (by omega)];refine a1F ?_
   have e3:(gG (σ++τ++ [G.i .i64 (1+(lead b:Int))]) (.sint .i64 1)).int+(gG (σ++τ++ [G.i .i64 (1+(lead b:Int))]) (.sint .i64 (j+3))).int=a+(1+(lead b:Int)):=by show((σ++τ++ [_]).getD 1 .d).int+((σ++τ++ [_]).getD (j+3) .d).int=_;rw[←hl,a1W,List.append_assoc,g1'];rfl
   rw[e3,wrp (by omega) (by omega)];refine a0c ?_;show Q (.ret [.i .u64 ((σ++τ++ [_]++ [_]).getD j .d).int,(σ++τ++ [_]++ [_]).getD 0 .d,.i .i64 ((σ++τ++ [_]++ [_]).getD (j+4) .d).int,(σ++τ++ [_]++ [_]).getD 2 .d]);rw[show j+4=(σ++τ++ [G.i .i64 (1+(lead b:Int))]).length by rw[List.length_append,hl];rfl,a1W,List.append_assoc,List.append_assoc,gj',g0',g2'];exact hQ _ (.inl ⟨n,_,a+(1+lead b),good (.inr hge),rfl,atK⟩)
 ·have h:(σ.getD 6 .d).int≤0:=h;rw[g6]at h;have hz:lead b=0:=by omega
  refine a1F ?_
  have e2:(gG σ (.int .i64 1)).int+(gG σ (.sint .i64 6)).int=1+(lead b:Int):=by show 1+(σ.getD 6 .d).int=_;rw[g6]
  rw[e2,wrp (by omega) (by omega)];refine a1F ?_
  have e3:(gG (σ++ [G.i .i64 (1+(lead b:Int))]) (.sint .i64 1)).int+(gG (σ++ [G.i .i64 (1+(lead b:Int))]) (.sint .i64 (j+1))).int=a+(1+(lead b:Int)):=by show((σ++ [_]).getD 1 .d).int+((σ++ [_]).getD (j+1) .d).int=_;rw[←len,a1W,g1'];rfl
  rw[e3,wrp (by omega) (by omega)];refine a0c ?_;show Q (.ret [.i .u64 ((σ++ [_]++ [_]).getD j .d).int,(σ++ [_]++ [_]).getD 0 .d,.i .i64 ((σ++ [_]++ [_]).getD (j+2) .d).int,(σ++ [_]++ [_]).getD 2 .d]);rw[show j+2=(σ++ [G.i .i64 (1+(lead b:Int))]).length by rw[List.length_append,len];rfl,a1W,List.append_assoc,gj',g0',g2'];exact hQ _ (.inl ⟨n,_,a+(1+lead b),good (.inl hz),rfl,atK⟩)
end
theorem nums_getD(s:ByteArray)(k:Nat):((s.data.toList.getD k 0).toNat:Int)=(numsOf s).getD k 0:=by unfold numsOf;rw[List.getD_eq_getElem?_getD,List.getD_eq_getElem?_getD,List.getElem?_map];cases s.data.toList[k]? <;>rfl
theorem c5i{s:ByteArray}{a:Int}(k:Nat)(h:0≤a):(rest s a).getD k 0=(numsOf s).getD (a+k).toNat 0:=by
 unfold rest;rw[List.getD_eq_getElem?_getD,List.getElem?_drop,List.getD_eq_getElem?_getD]
 congr 2
 omega
theorem b7N{s:ByteArray}{c:Int}(h:c∈numsOf s):0≤c∧c<256:=by obtain⟨u,_,rfl⟩:=List.mem_map.1 h;have:=u.toNat_lt;omega
theorem a4F{s:ByteArray}{a c:Int}(h:c∈rest s a):0≤c∧c<256:=b7N (List.mem_of_mem_drop h)
theorem b1P{s:ByteArray}{a:Int}(h:0≤a)(h1:a≤s.size):((rest s a).length:Int)=s.size-a:=by unfold rest;rw[List.length_drop,a4J];omega
section
variable{s:ByteArray}{a b:Int}{t:List Int}{C:Nat→Ct}{Q:Res→Prop}
theorem c9c(A:NA s a b t)(hQ: ∀us,NR s a us→Q (.ret us)): ∀(f i j:Nat) {σ:List G},i+f=9→1≤i→i≤lead b+1→NS s a b t i j σ→wp C (e1J f i j) σ Q:=by
 have B:=byte_of A.b0 A.b1;have l8:=B.l8;intro f
 induction f with
 |zero=>
  intro i j σ hi h1 hk S;refine a0w (fun h=> ?_) fun h=> ?_
  ·have h:(σ.getD 6 .d).int<i:=h;rw[S.g6]at h;exact c2E A S (by omega) hQ
  ·exfalso;have h:(i:Int)≤(σ.getD 6 .d).int:=h;rw[S.g6]at h;omega
 |succ f ih=>
  intro i j σ hi h1 hk S;refine a0w (fun h=> ?_) fun h=> ?_
  ·have h:(σ.getD 6 .d).int<i:=h;rw[S.g6]at h;exact c2E A S (by omega) hQ
  ·have h:(i:Int)≤(σ.getD 6 .d).int:=h;rw[S.g6]at h;obtain⟨len,j6,g0,g1,g2,g3,g6,gj⟩:=S;obtain⟨a0,he,hsz,mx,b0,b1,ht,ll⟩:=A;have hi':i-1<t.length:=by omega
   obtain⟨v0,v1⟩:=d2V b0 b1 ht (m:=i-1) (by omega);generalize hn:a7o (a4b b) (t.take (i-1))=n at gj v0 v1;refine⟨n*256, ?_, ?_⟩
   ·show aop .shl .u64 (σ.getD j .d).int 8=_;rw[gj];exact e3s v0 v1
   refine a1F ?_
   have e1:(gG (σ++ [G.i .u64 (n*256)]) (.sint .i64 1)).int+(gG (σ++ [G.i .u64 (n*256)]) (.int .i64 i)).int=a+i:=by show((σ++ [_]).getD 1 .d).int+(i:Int)=_;rw[a0N (by omega),g1]
   rw[e1,wrp (by omega) (by omega),List.append_assoc];generalize hτ:([G.i .u64 (n*256)]++ [G.i .i64 (a+i)])=τ;have hl:τ.length=2:=by subst hτ;rfl
   have h11:(σ++τ).getD (j+1) .d=G.i .u64 (n*256):=by subst hτ;rw[←len];show(σ++G.i .u64 (n*256)::[G.i .i64 (a+i)]).getD σ.length .d=_;rw[a1W]
   have h12:(σ++τ).getD (j+2) .d=G.i .i64 (a+i):=by subst hτ;rw[←List.append_assoc,show j+2=(σ++ [G.i .u64 (n*256)]).length by simp[len],a1W]
   have hc:(((gG (σ++τ) (.sym 0)).str.data.toList.getD (gG (σ++τ) (.sint .i64 (j+2))).int.toNat 0).toNat:Int)=t.getD (i-1) 0:=by
    show((((σ++τ).getD 0 .d).str.data.toList.getD ((σ++τ).getD (j+2) .d).int.toNat 0).toNat:Int)=_;rw[h12,a0N (by omega),g0];show((s.data.toList.getD (a+i).toNat 0).toNat:Int)=_;rw[nums_getD,←c5i i a0,he];obtain⟨m,rfl⟩: ∃m,i=m+1:=⟨i-1,by omega⟩
    simp
   have hcm:t.getD (i-1) 0∈t:=by rw[List.getD_eq_getElem?_getD,List.getElem?_eq_getElem hi'];exact List.getElem_mem hi'
   obtain⟨c0,c1⟩:=ht _ hcm;refine b9l ?_ ?_ ?_
   ·show 0≤((σ++τ).getD (j+2) .d).int;rw[h12];show 0≤a+(i:Int);omega
   ·show((σ++τ).getD (j+2) .d).int<(((σ++τ).getD 0 .d).str.size:Int);rw[h12,a0N (by omega),g0];show a+(i:Int)<(s.size:Int);omega
   rw[hc];generalize hcc:t.getD (i-1) 0=c at c0 c1;refine⟨n*256+c, ?_, ?_⟩
   ·show aop .or .u64 ((σ++τ++ [G.i .u8 c]).getD (j+1) .d).int ((σ++τ++ [G.i .u8 c]).getD (j+3) .d).int=_;rw[a0N (by simp[len,hl]),h11,show j+3=(σ++τ).length by simp[len,hl],a1W];exact or8 v0 v1 c0 c1
   refine ih (i+1) (j+4) (by omega) (by omega) (by omega) ?_
   have e5: ∀k,k<σ.length→(σ++τ++ [G.i .u8 c]++ [G.i .u64 (n*256+c)]).getD k .d=σ.getD k .d:=fun k hk=>by rw[List.append_assoc,List.append_assoc,a0N hk]
   refine⟨by simp[len,hl],by omega,by rw[e5 _ (by omega),g0],by rw[e5 _ (by omega),g1],by rw[e5 _ (by omega),g2],by rw[e5 _ (by omega),g3],by rw[e5 _ (by omega),g6], ?_⟩;rw[show j+4=(σ++τ++ [G.i .u8 c]).length by simp[len,hl],a1W];show n*256+c=_
   rw[Nat.add_sub_cancel,show t.take i=t.take (i-1)++ [c]by
    rw[←hcc,List.getD_eq_getElem?_getD,List.getElem?_eq_getElem hi'];show _=t.take (i-1)++ [t[i-1]];rw[←List.take_succ_eq_append_getElem hi']
    congr 1
    omega,c5C,hn]
theorem d6r(h0:0≤a)(h1:a≤s.size)(mx:(s.size:Int)≤9223372036854775807)(hQ: ∀us,NR s a us→Q (.ret us)):wp (Cs [cLz]) c4r (st3 s a false) Q:=by
 rw[d2C];refine a4V ?_
 have stop: ∀{σ:List G},pU (rest s a)=none→(∃τ,σ= .s s:: .i .i64 a:: .b false:: .i .i64 s.size::τ)→wp (Cs [cLz]) d2h σ Q:=by rintro σ hp ⟨τ,rfl⟩;refine a0c ?_;exact hQ _ (.inr ⟨hp,rfl⟩)
 refine a0w (fun h=> ?_) fun h=> ?_
 ·have h:a<s.size:=h
  obtain⟨b,t,he⟩: ∃b t,rest s a=b::t:=by
   have:=b1P h0 h1
   match hr:rest s a with
   | []=>rw[hr]at this;simp only[List.length_nil]at this;omega
   |b::t=>exact⟨b,t,rfl⟩
  have hb:((s.data.toList.getD a.toNat 0).toNat:Int)=b:=by have:=c5i (s:=s) 0 h0;rw[he]at this;rw[nums_getD];simpa using this.symm
  obtain⟨b0,b1⟩:=a4F (s:=s) (a:=a) (c:=b) (by rw[he];exact List.mem_cons_self);have B:=byte_of b0 b1;have hlen:=b1P (s:=s) h0 h1;rw[he,List.length_cons]at hlen;have l8:=B.l8;refine b9l h0 h ?_;show wp _ _ (st3 s a false++ [.i .i64 s.size]++ [.i .u8 ((s.data.toList.getD a.toNat 0).toNat:Int)]) Q;rw[hb];refine d9s (r:=255-b) B.xor ?_;refine a3Q trivial ?_;show wp _ _ (st3 s a false++ [.i .i64 s.size]++ [.i .u8 b]++ [.i .u8 (255-b)]++ [.i .i64 (lzV (255-b))]) Q;rw[B.lz];refine c4u ?_;show wp _ _ (st3 s a false++ [.i .i64 s.size]++ [.i .u8 b]++ [.i .u8 (255-b)]++ [.i .i64 (lead b)]++ [.i .i64 (IntKind.i64.wrap (s.size-a))]) Q;rw[wrp (by omega) (by omega)];refine a0w (fun h2=> ?_) fun h2=> ?_
  ·have h2:(lead b:Int)<s.size-a:=h2;refine⟨_,B.shr, ?_⟩;refine⟨_,B.and, ?_⟩;refine c9c ⟨h0,he,by omega,mx,b0,b1,fun c hc=>a4F (s:=s) (a:=a) (by rw[he];exact List.mem_cons_of_mem _ hc),by omega⟩ hQ 8 1 9 rfl (by decide) (by omega) ⟨rfl,by decide,rfl,rfl,rfl,rfl,rfl, ?_⟩;simp only[Nat.sub_self,List.take_zero,a7o,List.foldl_nil];rfl
  ·have h2:s.size-a≤(lead b:Int):=h2;refine stop ?_ ⟨_,rfl⟩;rw[he];simp only[pU];rw[if_neg (by omega)]
 ·have h:(s.size:Int)≤a:=h;refine stop ?_ ⟨_,rfl⟩;have:=b1P (s:=s) h0 h1;rw[List.eq_nil_of_length_eq_zero (l:=rest s a) (by omega)];rfl
end
theorem c5T{s:ByteArray}{a:Int}{b:Bool}{l:List G}{ts:List Ty}(h:TyL (.s::ts) (st3 s a b++l)):(s.size:Int)≤9223372036854775807:=by have h:TyL (.s::ts) (.s s:: .i .i64 a:: .b b::l):=h;simp only[TyL,TyOK]at h;exact h.1
theorem c3A:CoOK Try.prog b8x:=by
 refine⟨fun w σ O L vs hL hO ht hm ha hp=> ?_⟩;obtain⟨s,a,rfl,h0,h1⟩:=hp;have mx:(s.size:Int)≤9223372036854775807:=c5T (l:=[]) ht;refine(b4G hng mixed (a8u e2d) (b4W (l:=[]) (fun c hc=>by cases hc)) Try.func68 d2B 0 0 (fun _ _=>False) (fun _ _=>0) (NR s a) False a0X (gs0:=st3 s a false) (fun q hq=>by cases hq) ?_ (fun q hq=>by cases hq) (fun q hq=>by cases hq) (fun q hq=>by cases hq) hL hO ht hm ha).mono ?_
 ·exact d6r h0 h1 mx fun us h=>h
 ·rintro e w' ⟨an,⟨us,h2,h3,h4⟩|⟨hf,_⟩⟩
  ·exact⟨an,.inl ⟨us,⟨s,a,rfl,h2⟩,h3,h4⟩⟩
  ·exact hf.elim
end
end Go.Proofs.Ytmmmknhdigapkaa.poolCut
namespace Go.Proofs.Ytmmmknhdigapkaa.poolCut
open Go.Ev Go.RowKit Go.Proofs.Ytmmmknhdigapkaa.poolS
set_option linter.unusedVariables false
theorem d1Q(w:World):Calls Try.prog 31 #[.bool true] w fun e w'=>e= .returned (.tuple ⟨[]⟩)∧w'=w:=by go_enter Try.func31,Try.ntmps31;go_wp2;exact⟨rfl,_,(show(results Try.f31 #[Value.bool true,undef,Value.bool true,Value.bool false,undef,undef]).run Try.prog w= .ok (.tuple ⟨[]⟩) w by kernel_rfl),rfl,rfl⟩
theorem c6d(w:World):Calls Try.prog 31 #[.bool false] w fun e w'=>e= .panicked (a7N a0X)∧w'=w:=by go_enter Try.func31,Try.ntmps31;go_wp2;exact⟨rfl,rfl,rfl⟩
noncomputable section
theorem a3s:CoOK Try.prog a5G:=by
 refine⟨fun w σ O L vs hL hO ht hm ha _=> ?_⟩;obtain rfl:O= []:=List.eq_nil_of_length_eq_zero hO.len;obtain⟨g,l,rfl,t,h0⟩:=tyC (show TyL [.b] σ from ht);obtain⟨b,rfl⟩:=tyB t;obtain rfl:=tyN h0;have hz:L++a1Y (([]:List Inf).map some)=L:=by simp[a1Y]
 have hv:vs= [.bool b]:=by
  have ha:b3H [.b b] [] [.d 0] vs:=ha
  match vs,ha with
  | [v],ha=>simp only[b3H,svR,and_true]at ha;rw[ha];rfl
  | [],ha=>simp only[b3H]at ha
  |_::_::_,ha=>simp only[b3H,and_false]at ha
 subst hv;cases b with
 |true=>refine(d1Q w).mono ?_;rintro e w' ⟨rfl,rfl⟩;exact⟨.refl _ _,.inl ⟨[],⟨rfl,rfl⟩,rfl,trivial,trivial,⟨rfl,(fun q b hq=>by cases hq),(fun i j o o' h=>by cases h),fun o ho=>by cases ho⟩⟩⟩
 |false=>refine(c6d w).mono ?_;rintro e w' ⟨rfl,rfl⟩;exact⟨.refl _ _,.inr ⟨rfl,rfl⟩⟩
theorem d8o: ∀c∈([]:List Co),CoOK Try.prog c:=fun c hc=>by cases hc
theorem c4k: ∀c∈([]:List Ct),CtOK Try.prog c:=fun c hc=>by cases hc
theorem c1K:CoOK Try.prog d8L:=by
 refine⟨fun w σ O L vs hL hO ht hm ha hp=> ?_⟩;obtain⟨s,a,b,rfl⟩:=hp;refine(b4G hng mixed (a8u c4k) (b4W d8o) Try.func48 d5i 0 0 (fun _ _=>False) (fun _ _=>0) (fun us=>us= .b (!b)::st3 s a b) False a0X (gs0:=st3 s a b) (fun q hq=>by cases hq) ?_ (fun q hq=>by cases hq) (fun q hq=>by cases hq) (fun q hq=>by cases hq) hL hO ht hm ha).mono ?_
 ·show wp _ d2A _ _;unfold d2A;refine a3d (fun h=>a0c ?_) (fun h=>a0c ?_)
  ·obtain rfl:b=true:=h;rfl
  ·obtain rfl:b=false:=h;rfl
 ·rintro e w' ⟨an,⟨us,rfl,h3,h4⟩|⟨hf,_⟩⟩
  ·exact⟨an,.inl ⟨_,⟨s,a,b,rfl,rfl⟩,h3,h4⟩⟩
  ·exact hf.elim
theorem d0a:CoOK Try.prog e2F:=by
 refine⟨fun w σ O L vs hL hO ht hm ha hp=> ?_⟩;obtain⟨s,a,b,rfl⟩:=hp;refine(b4G hng mixed (a8u c4k) (b4W d8o) Try.func32 d5m 0 0 (fun _ _=>False) (fun _ _=>0) (fun us=>us= .b (!b&&decide (a=s.size))::st3 s a b) False a0X (gs0:=st3 s a b) (fun q hq=>by cases hq) ?_ (fun q hq=>by cases hq) (fun q hq=>by cases hq) (fun q hq=>by cases hq) hL hO ht hm ha).mono ?_
 ·show wp _ d2G _ _;unfold d2G;refine a3d (fun h=>a0c ?_) (fun h=>a4V (a0r (fun h2=>a0c ?_) (fun h2=>a0c ?_)))
  ·obtain rfl:b=true:=h;rfl
  ·obtain rfl:b=false:=h;have h2:a=s.size:=h2;show [G.b true,.s s,.i .i64 a,.b false]= .b (true&&decide (a=s.size))::st3 s a false;rw[decide_eq_true h2];rfl
  ·obtain rfl:b=false:=h;have h2: ¬a=s.size:=h2;show [G.b false,.s s,.i .i64 a,.b false]= .b (true&&decide (a=s.size))::st3 s a false;rw[decide_eq_false h2];rfl
 ·rintro e w' ⟨an,⟨us,rfl,h3,h4⟩|⟨hf,_⟩⟩
  ·exact⟨an,.inl ⟨_,⟨s,a,b,rfl,rfl⟩,h3,h4⟩⟩
  ·exact hf.elim
theorem a3m{C:Nat→Ct}{D:Nat→Co}{F:FnO}{R:List G→Prop}{Pn:Prop}{pv:Value}{iH:Nat→List G→Prop}{mH:Nat→List G→Nat}{n b h:Nat}{σ:List G}(e:MdO)(c:Co)(hl:a0s h F.md=some e)(hD:D e.c=c)(hb:b1a e.sg σ)(hp:TyL e.sg.tys σ→c.pre (e.xs.map (gG σ)))(hn:c.pan (e.xs.map (gG σ))→Pn∧c.pv=pv)(hq: ∀us,c.post (e.xs.map (gG σ)) us→TyL (a0F c.rs++c.oty) us→wp C e.tr (σ++us) (Go C D F R Pn pv iH mH n b)):Go C D F R Pn pv iH mH (n+1) b (.goto h σ):=by simp only[Go,hl,hD];exact⟨hb,fun ht=>⟨hp ht,hn,hq⟩⟩
theorem bd0{sg:Sig}{σ:List G}(h:isCells sg.bl=true):b1a sg σ:=fun q j jn ts et n hq=>absurd hq (a9O h q j jn ts et n)
theorem d0m{n:Int}(h0:0≤n)(h1:n<9223372036854775808):IntKind.i64.wrap n=n:=wrp (by omega) (by omega)
theorem e3W{x:Int}(h0:0≤x)(h1:x<9223372036854775808):aop .xor .i64 x (-1)=some (-x-1):=by show some (IntKind.i64.wrap ((BitVec.ofInt 64 x^^^BitVec.ofInt 64 (-1)).toNat:Int))=_;rw[show(BitVec.ofInt 64 (-1))=BitVec.allOnes 64 from by decide,BitVec.xor_allOnes,BitVec.toNat_not,a4a h0 (by omega),IntKind.wrap_i64];refine congrArg some ?_;omega
theorem e3X{x:Int}(h0:0≤x)(h1:x<9223372036854775808):aop .xor .i64 x 0=some x:=by show some (IntKind.i64.wrap ((BitVec.ofInt 64 x^^^BitVec.ofInt 64 0).toNat:Int))=_;rw[show(BitVec.ofInt 64 0)=0#64 from rfl,BitVec.xor_zero,a4a h0 (by omega),IntKind.wrap_i64];refine congrArg some ?_;omega
theorem and1{x:Int}(h0:0≤x)(h1:x<18446744073709551616):aop .and .u64 x 1=some (x%2):=by
 show some (IntKind.u64.wrap ((BitVec.ofInt 64 x&&&BitVec.ofInt 64 1).toNat:Int))=_;rw[BitVec.toNat_and,a4a h0 h1,show(BitVec.ofInt 64 1).toNat=2^1-1 from rfl,Nat.and_two_pow_sub_one_eq_mod,wrap_u64 (by omega) (by omega)]
 congr 1
 omega
theorem e3r{x:Int}(h0:0≤x):aop .shr .u64 x 1=some (x/2):=by show some (x.fdiv (2^1))=_;rw[Int.fdiv_eq_ediv_of_nonneg _ (by decide)];rfl
theorem d8m: ∀c∈ [b8x],CoOK Try.prog c:=by intro c hc;rw[List.mem_singleton.1 hc];exact c3A
theorem c0J{l:List Int}{n:Int}{r:List Int}(h:pU l=some (n,r))(hb: ∀c∈l,0≤c∧c<256):U64 n∧l=a0U n++r:=by
 match l,h,hb with
 |b::t,h,hb=>
  simp only[pU]at h;split at h
  ·rename_i h1;split at h
   ·cases h
   ·rename_i h2;simp only[Option.some.injEq,Prod.mk.injEq]at h;obtain⟨rfl,rfl⟩:=h;obtain⟨b0,b1⟩:=hb b List.mem_cons_self;have hl:(t.take (lead b)).length=lead b:=by rw[List.length_take];omega
    obtain⟨e1,e2⟩:=c6R b0 b1 (t:=t.take (lead b)) hl.symm (fun c hc=>hb c (List.mem_cons_of_mem _ (List.mem_of_mem_take hc))) (fun hp=>by rw[hl]at hp ⊢;omega);exact⟨e2,by rw[e1,List.cons_append,List.take_append_drop]⟩
  ·cases h
theorem d3I{n:Int}{r:List Int}(h:U64 n):pU (a0U n++r)=some (n,r):=by obtain⟨b,t,e1,b0,b1,hl,hv,ht,hc⟩:=b2K h;rw[e1,List.cons_append];simp only[pU,hl,List.length_append,List.take_left,List.drop_left];rw[if_pos (by omega),if_neg (by rw[←hv];omega),←hv]
theorem c4s{n:Int}(h:U64 n){s:ByteArray}{a a':Int}{b:Bool}{C:Nat→Ct}{Q:Res→Prop}(hQ:Q (.ret (.i .i64 (a7w n)::st3 s a' b))):wp C a5K (st3 s a false++(.i .u64 n::st3 s a' b)) Q:=by
 obtain⟨h0,h1⟩:=h;unfold a5K;refine⟨n/2,e3r h0, ?_⟩;refine a3t ?_;show wp _ _ (st3 s a false++(.i .u64 n::st3 s a' b)++ [.i .u64 (n/2)]++ [.i .i64 (IntKind.i64.wrap (n/2))]) _;rw[d0m (by omega) (by omega)];refine⟨n%2,and1 h0 h1, ?_⟩;refine a3t ?_;show wp _ _ (st3 s a false++(.i .u64 n::st3 s a' b)++ [.i .u64 (n/2)]++ [.i .i64 (n/2)]++ [.i .u64 (n%2)]++ [.i .i64 (IntKind.i64.wrap (n%2))]) _;rw[d0m (by omega) (by omega)];refine⟨-(n%2), ?_, ?_⟩
 ·show some (IntKind.i64.wrap (0-n%2))=_;rw[wrp (by omega) (by omega)]
  congr 1
  omega
 refine⟨a7w n, ?_,a0c hQ⟩;show aop .xor .i64 (n/2) (-(n%2))=_;unfold a7w;split
 ·rename_i h2;rw[h2];exact e3X (by omega) (by omega)
 ·rename_i h2;rw[show n%2=1 by omega];exact e3W (by omega) (by omega)
theorem d0Z:CoOK Try.prog d4s:=by
 refine⟨fun w σ O L vs hL hO ht hm ha hp=> ?_⟩;obtain⟨s,a,rfl,h0,h1⟩:=hp;refine(b4G hng mixed (a8u c4k) (b4W d8m) Try.func82 d5k 1 0 (fun _ _=>False) (fun _ _=>0) (fun us=>(∃n r a',pU (rest s a)=some (n,r)∧us= .i .i64 (a7w n)::st3 s a' false∧At s a' r)∨(pU (rest s a)=none∧us= .i .i64 0::st3 s s.size true)) False a0X (gs0:=st3 s a false) (fun q hq=>by cases hq) ?_ (fun q hq=>by cases hq) (fun q hq=>by cases hq) (fun q hq=>by rw[List.mem_singleton.1 hq];rfl) hL hO ht hm ha).mono ?_
 ·show wp _ d2E _ _;unfold d2E;refine a0C ?_;show Go _ _ win _ _ _ _ _ 1 0 (.goto 1001001 (st3 s a false));refine a3m a9l b8x rfl rfl (bd0 rfl) (fun _=>⟨s,a,rfl,h0,h1⟩) (fun h=>h.elim) fun us h _=> ?_;obtain⟨s',a',e1,h⟩:=h;injection e1 with e1 e2
  injection e1 with e1
  injection e2 with e2 _
  injection e2 with _ e2
  subst e1 e2;rcases h with⟨n,r,a',h2,rfl,h3⟩|⟨h2,rfl⟩
  ·exact c4s (c0J h2 fun c hc=>a4F hc).1 (.inl ⟨n,r,a',h2,rfl,h3⟩)
  ·exact c4s (n:=0) ⟨by decide,by decide⟩ (.inr ⟨h2,rfl⟩)
 ·rintro e w' ⟨an,⟨us,h2,h3,h4⟩|⟨hf,_⟩⟩
  ·exact⟨an,.inl ⟨us,⟨s,a,rfl,h2⟩,h3,h4⟩⟩
  ·exact hf.elim
end
end Go.Proofs.Ytmmmknhdigapkaa.poolCut
namespace Go.Proofs.Ytmmmknhdigapkaa.poolCut
open Go.Ev Go.RowKit Go.Proofs.Ytmmmknhdigapkaa.poolS
set_option linter.unusedVariables false
set_option linter.unusedSimpArgs false
noncomputable section
theorem b7L(u:UInt8):UInt8.ofNat ((u.toNat:Int)).toNat=u:=by rw[Int.toNat_natCast];exact UInt8.ofNat_toNat
theorem b0S{s:ByteArray}{a:Int}{n:Nat}(h0:0≤a):s.extract a.toNat (a+n).toNat=strOfNums ((rest s a).take n):=by
 apply ByteArray.ext;rw[ByteArray.data_extract];apply Array.toList_inj.1;rw[Array.toList_extract,List.extract_eq_take_drop];show _=((rest s a).take n).map fun n=>UInt8.ofNat n.toNat;unfold rest numsOf;rw[←List.map_drop,←List.map_take,List.map_map,show(a+n).toNat-a.toNat=n by omega]
 have:((fun n:Int=>UInt8.ofNat n.toNat)∘fun b:UInt8=>(b.toNat:Int))=id:=by
  funext u
  exact b7L u
 rw[this,List.map_id]
theorem a6a{s s':ByteArray}{a a':Int}(h:st3 s a false=st3 s' a' false):s=s'∧a=a':=by
 injection h with h1 h2
 injection h1 with h1
 injection h2 with h2 _
 injection h2 with _ h2
 exact⟨h1,h2⟩
theorem d0Y:CoOK Try.prog d4q:=by
 refine⟨fun w σ O L vs hL hO ht hm ha hp=> ?_⟩;obtain⟨s,a,rfl,h0,h1⟩:=hp;have mx:(s.size:Int)≤9223372036854775807:=c5T (l:=[]) ht;refine(b4G hng mixed (a8u c4k) (b4W d8m) Try.func47 d5g 1 0 (fun _ _=>False) (fun _ _=>0) (fun us=>(∃x r a',pT (rest s a)=some ([.s x],r)∧us= .s x::st3 s a' false∧At s a' r)∨(pT (rest s a)=none∧us= .s ⟨#[]⟩::st3 s s.size true)) False a0X (gs0:=st3 s a false) (fun q hq=>by cases hq) ?_ (fun q hq=>by cases hq) (fun q hq=>by cases hq) (fun q hq=>by rw[List.mem_singleton.1 hq];rfl) hL hO ht hm ha).mono ?_
 ·show wp _ d1z _ _;unfold d1z;refine a0C ?_;show Go _ _ wtx _ _ _ _ _ 1 0 (.goto 1001001 (st3 s a false));refine a3m a9k b8x rfl rfl (bd0 rfl) (fun _=>⟨s,a,rfl,h0,h1⟩) (fun h=>h.elim) fun us h _=> ?_;obtain⟨s',a',e1,h⟩:=h;obtain⟨rfl,rfl⟩:=a6a (s:=s) (a:=a) e1;show wp _ a5H _ _;unfold a5H;rcases h with⟨n,r,a',h2,rfl,h3⟩|⟨h2,rfl⟩
  ·obtain⟨⟨n0,n1⟩,_⟩:=c0J h2 fun c hc=>a4F hc;obtain⟨l0,l1,l2⟩:=h3;have hr:=b1P l0 l1;rw[l2]at hr;refine a3d (fun h=>by cases h) fun h=> ?_;refine a4V (c4u (a3t ?_));show wp _ _ (st3 s a false++(.i .u64 n::st3 s a' false)++ [.i .i64 s.size]++ [.i .i64 (IntKind.i64.wrap (s.size-a'))]++ [.i .u64 (IntKind.u64.wrap (IntKind.i64.wrap (s.size-a')))]) _;rw[wrp (by omega) (by omega),wrap_u64 (by omega) (by omega)];refine a0w (fun h=>a0c ?_) fun h=> ?_
   ·have h:(s.size:Int)-a'<n:=h;refine .inr ⟨?_,rfl⟩;unfold pT;rw[h2];simp only;rw[if_neg (by omega)]
   ·have h:n≤(s.size:Int)-a':=h;refine a3t ?_;show wp _ _ (st3 s a false++(.i .u64 n::st3 s a' false)++ [.i .i64 s.size]++ [.i .i64 (s.size-a')]++ [.i .u64 (s.size-a')]++ [.i .i64 (IntKind.i64.wrap n)]) _;rw[wrp (by omega) (by omega)];refine a1F ?_;show wp _ _ (st3 s a false++(.i .u64 n::st3 s a' false)++ [.i .i64 s.size]++ [.i .i64 (s.size-a')]++ [.i .u64 (s.size-a')]++ [.i .i64 n]++ [.i .i64 (IntKind.i64.wrap (a'+n))]) _;rw[wrp (by omega) (by omega)];refine a7t l0 ?_ ?_ ?_
    ·show a'≤a'+n;omega
    ·show a'+n≤s.size;omega
    show wp _ _ (st3 s a false++(.i .u64 n::st3 s a' false)++ [.i .i64 s.size]++ [.i .i64 (s.size-a')]++ [.i .u64 (s.size-a')]++ [.i .i64 n]++ [.i .i64 (a'+n)]++ [.s (s.extract a'.toNat (a'+n).toNat)]) _;rw[show n=((n.toNat:Nat):Int)by omega,b0S l0];refine a0c ?_;refine .inl ⟨_,r.drop n.toNat,a'+n.toNat, ?_,rfl,⟨by omega,by omega,by rw[←l2,b6h l0]⟩⟩;unfold pT;rw[h2];simp only;rw[if_pos (by omega),l2]
  ·refine a3d (fun h=>a0c (.inr ⟨?_,rfl⟩)) fun h=>by cases h
   unfold pT;rw[h2]
 ·rintro e w' ⟨an,⟨us,h2,h3,h4⟩|⟨hf,_⟩⟩
  ·exact⟨an,.inl ⟨us,⟨s,a,rfl,h2⟩,h3,h4⟩⟩
  ·exact hf.elim
def RR(s:ByteArray)(a:Int)(p:Pr)(us:List G):Prop:= ∃x y r a',us=x++st3 s a' false∧p (rest s a)=some (y,r)∧erL x=y∧At s a' r
theorem b3N{F:FnO}{f:FuncId}{fn:Func}{Dl:List Co}(hD: ∀c∈Dl,CoOK Try.prog c)(hf:Try.prog.funcs[f]? =some fn)(hchk:a2H Try.prog (Cs []) (Dso Dl) fn F=true)(xg:List G)(p:Pr)(ts:List Ty)(hty:F.ty= .s::ts)(hoty:F.oty=a3u)(N B:Nat)(iH:ByteArray→Int→Nat→List G→Prop)(mH:Nat→List G→Nat)(hmd: ∀q∈F.hd,a0s q.1 F.md=none)(hmu: ∀q∈F.md,a0s q.1 F.md=some q.2)
  (h0: ∀s a,0≤a→a≤(s.size:Int)→(s.size:Int)≤9223372036854775807→wp (Cs []) F.ent (st3 s a false++xg) (Go (Cs []) (Dso Dl) F (RR s a p) (p (rest s a)=none) a0X (iH s a) mH N B))
  (hbd: ∀s a,∀q∈F.hd,∀σ,iH s a q.1 σ→b1a q.2.1 σ)
  (hh: ∀s a,0≤a→a≤(s.size:Int)→(s.size:Int)≤9223372036854775807→ ∀q∈F.hd,∀σ,TyL q.2.1.tys σ→iH s a q.1 σ→wp (Cs []) q.2.2 σ (Go (Cs []) (Dso Dl) F (RR s a p) (p (rest s a)=none) a0X (iH s a) mH N (mH q.1 σ))):CoOK Try.prog (coF F f xg p):=by
 refine⟨fun w σ O L vs hL hO ht hm ha hp=> ?_⟩;obtain⟨s,a,rfl,l0,l1⟩:=hp;have ht:TyL F.ty (st3 s a false++xg):=ht;have mx:(s.size:Int)≤9223372036854775807:=c5T (ts:=ts) (by rw[←hty];exact ht);refine(b4G hng mixed (a8u c4k) (b4W hD) hf hchk N B (iH s a) mH (RR s a p) (p (rest s a)=none) a0X (gs0:=st3 s a false++xg) hmd (h0 s a l0 l1 mx) (hbd s a) (hh s a l0 l1 mx) hmu hL hO ht hm ha).mono ?_;rintro e w' ⟨an,⟨us,⟨x,y,r,a',rfl,h2,h3,h4⟩,h5,h6,h7⟩|⟨hf,h5⟩⟩
 ·refine⟨an,.inl ⟨_,⟨s,a,x,y,r,a',rfl,rfl,h2,h3, ?_,h4⟩,h5,h6,h7⟩⟩;have hl:=h6.len;rw[hoty]at hl;simp only[List.length_append]at hl
  have hl:x.length=(a0F F.rs).length:=by have e1:(st3 s a' false).length=3:=rfl;have e2:a3u.length=3:=rfl;omega
  have:=TyL.take h6
  rwa [←hl,List.take_left]at this
 ·exact⟨an,.inr ⟨⟨s,a,rfl,hf⟩,h5⟩⟩
section
variable{D:Nat→Co}{F:FnO}{R:List G→Prop}{Pn:Prop}{iH:Nat→List G→Prop}{mH:Nat→List G→Nat}{n b h:Nat}{σ:List G}{s:ByteArray}{a:Int}{l:List Int}
theorem c5V{s s':ByteArray}{a a':Int}{x x':List G}(h:st3 s a false++x=st3 s' a' false++x'):s=s'∧a=a':=by
 injection h with h1 h2
 injection h1 with h1
 injection h2 with h2 _
 injection h2 with _ h2
 exact⟨h1,h2⟩
theorem c0k{G:FnO}{f:FuncId}{xg:List Go.Ev.G}{q:Pr}(e:MdO)(hl:a0s h F.md=some e)(hD:D e.c=coF G f xg q)(hb:b1a e.sg σ)(hx:e.xs.map (gG σ)=st3 s a false++xg)(A:At s a l)(hn:q l=none→Pn)(hq: ∀x y r a',q l=some (y,r)→erL x=y→TyL (a0F G.rs) x→At s a' r→wp (Cs []) e.tr (σ++(x++st3 s a' false)) (Go (Cs []) D F R Pn a0X iH mH n b)):Go (Cs []) D F R Pn a0X iH mH (n+1) b (.goto h σ):=by
 obtain⟨A0,A1,A2⟩:=A;refine a3m e _ hl hD hb (fun _=>⟨s,a,hx,A0,A1⟩) (fun hp=> ?_) fun us hp _=> ?_
 ·obtain⟨s',a',e1,e2⟩:=hp;rw[hx]at e1;obtain⟨rfl,rfl⟩:=c5V e1;exact⟨hn (by rw[←A2];exact e2),rfl⟩
 ·obtain⟨s',a',x,y,r,a2,e1,rfl,e2,e3,e4,e5⟩:=hp;rw[hx]at e1;obtain⟨rfl,rfl⟩:=c5V e1;exact hq x y r a2 (by rw[←A2];exact e2) e3 e4 e5
theorem d1V{x:List G}(h:TyL [.i .i64] x): ∃n,x= [.i .i64 n]∧erL x=x:=by obtain⟨g,l,rfl,t,h1⟩:=tyC h;obtain⟨n,rfl,_⟩:=a0a t;obtain rfl:=tyN h1;exact⟨n,rfl,rfl⟩
theorem e1B{l:List Int}{x:List G}{r:List Int}{s:ByteArray}{a:Int}(A:At s a l)(h:pN l=some (x,r)): ∃n,x= [.i .i64 n]∧0≤n∧n<65536:=by
 unfold pN at h;split at h
 ·rename_i n r' h1;split at h
  ·rename_i h2;simp only[Option.some.injEq,Prod.mk.injEq]at h;obtain⟨rfl,rfl⟩:=h;exact⟨n,rfl,(c0J h1 fun c hc=>by rw[←A.eq]at hc;exact a4F hc).1.1,h2⟩
  ·cases h
 ·cases h
theorem a2p(e:MdO)(hl:a0s h F.md=some e)(hD:D e.c=b4Q)(hb:b1a e.sg σ)(hx:e.xs.map (gG σ)=st3 s a false)(A:At s a l)(hn:pN l=none→Pn)(hq: ∀m r a',pN l=some ([.i .i64 m],r)→0≤m→m<65536→At s a' r→wp (Cs []) e.tr (σ++(.i .i64 m::st3 s a' false)) (Go (Cs []) D F R Pn a0X iH mH n b)):Go (Cs []) D F R Pn a0X iH mH (n+1) b (.goto h σ):=by refine c0k e hl hD hb (by rw[hx,List.append_nil]) A hn fun x y r a' h1 h2 h3 h4=> ?_;obtain⟨m,rfl,h5⟩:=d1V h3;rw[h5]at h2;subst h2;obtain⟨m',h6,h7,h8⟩:=e1B A h1;cases h6;exact hq m r a' h1 h7 h8 h4
theorem c2Y(e:MdO)(hl:a0s h F.md=some e)(hD:D e.c=d7h)(hb:b1a e.sg σ)(hx:e.xs.map (gG σ)=st3 s a false)(A:At s a l)(hn:pI l=none→Pn)(hq: ∀m r a',pI l=some ([.i .i64 m],r)→At s a' r→wp (Cs []) e.tr (σ++(.i .i64 m::st3 s a' false)) (Go (Cs []) D F R Pn a0X iH mH n b)):Go (Cs []) D F R Pn a0X iH mH (n+1) b (.goto h σ):=by refine c0k e hl hD hb (by rw[hx,List.append_nil]) A hn fun x y r a' h1 h2 h3 h4=> ?_;obtain⟨m,rfl,h5⟩:=d1V h3;rw[h5]at h2;subst h2;exact hq m r a' h1 h4
theorem a1e(e:MdO)(hl:a0s h F.md=some e)(hD:D e.c=a5G)(hb:b1a e.sg σ){f:Bool}(hx:e.xs.map (gG σ)= [.b f])(hn:f=false→Pn)(hq:f=true→wp (Cs []) e.tr σ (Go (Cs []) D F R Pn a0X iH mH n b)):Go (Cs []) D F R Pn a0X iH mH (n+1) b (.goto h σ):=by
 refine a3m e _ hl hD hb (fun _=>trivial) (fun hp=> ?_) fun us hp _=> ?_
 ·have hp:e.xs.map (gG σ)= [.b false]:=hp;rw[hx]at hp;injection hp with hp _
  injection hp with hp
  exact⟨hn hp,rfl⟩
 ·obtain⟨h1,rfl⟩:e.xs.map (gG σ)= [.b true]∧us= []:=hp;rw[hx]at h1;injection h1 with h1 _
  injection h1 with h1
  rw[List.append_nil];exact hq h1
theorem c3z(e:MdO)(hl:a0s h F.md=some e)(hD:D e.c=d8L)(hb:b1a e.sg σ){f:Bool}(hx:e.xs.map (gG σ)=st3 s a f)(hq:wp (Cs []) e.tr (σ++(.b (!f)::st3 s a f)) (Go (Cs []) D F R Pn a0X iH mH n b)):Go (Cs []) D F R Pn a0X iH mH (n+1) b (.goto h σ):=by
 refine a3m e _ hl hD hb (fun _=>⟨s,a,f,hx⟩) (fun hp=>hp.elim) fun us hp _=> ?_;obtain⟨s',a',f',e1,rfl⟩:=hp;rw[hx]at e1;injection e1 with e1 e2
 injection e1 with e1
 injection e2 with e2 e3
 injection e2 with _ e2
 injection e3 with e3 _
 injection e3 with e3
 subst e1 e2 e3;exact hq
end
theorem D1_ok: ∀c∈e2Q,CoOK Try.prog c:=by
 intro c hc;simp only[e2Q,List.mem_cons,List.not_mem_nil,or_false]at hc;rcases hc with rfl|rfl|rfl
 ·exact c3A
 ·exact c1K
 ·exact a3s
theorem e2b: ∀c∈e2P,CoOK Try.prog c:=by
 intro c hc;simp only[e2P,List.mem_cons,List.not_mem_nil,or_false]at hc;rcases hc with rfl|rfl|rfl
 ·exact d0Z
 ·exact c1K
 ·exact a3s
theorem a6K:CoOK Try.prog b4Q:=by
 refine b3N D1_ok Try.func46 d6s [] pN _ rfl rfl 3 0 (fun _ _ _ _=>False) (fun _ _=>0) (fun q hq=>by cases hq) (fun q hq=>by simp only[num,List.mem_cons,List.not_mem_nil,or_false]at hq;rcases hq with rfl|rfl|rfl<;>rfl) ?_ (fun _ _ q hq=>by cases hq) (fun _ _ _ _ _ q hq=>by cases hq);intro s a h0 h1 mx;show wp _ d3T _ _;unfold d3T;refine a0C ?_;show Go _ _ num _ _ _ _ _ 3 0 (.goto 1001004 (st3 s a false));refine a3m a9x b8x rfl rfl (bd0 rfl) (fun _=>⟨s,a,rfl,h0,h1⟩) (fun h=>h.elim) fun us h _=> ?_;obtain⟨s',a',e1,h⟩:=h;obtain⟨rfl,rfl⟩:=a6a (s:=s) (a:=a) e1;rcases h with⟨n,r,a',h2,rfl,h3⟩|⟨h2,rfl⟩
 ·obtain⟨⟨n0,n1⟩,_⟩:=c0J h2 fun c hc=>a4F hc;refine a0C ?_;show Go _ _ num _ _ _ _ _ 2 0 (.goto 1002004 (.i .u64 n::st3 s a' false));refine c3z (s:=s) (a:=a') (f:=false) a5a rfl rfl (bd0 rfl) rfl ?_;refine a3d (fun _=>a0w (fun h=>a0C ?_) fun h=>a0C ?_) fun h=>by cases h
  ·have h:n<65536:=h;show Go _ _ num _ _ _ _ _ 1 0 (.goto 1002009 (.i .u64 n::(st3 s a' false++ [.b true])));refine a1e (f:=true) a3l rfl rfl (bd0 rfl) rfl (fun h=>by cases h) fun _=> ?_;refine a3t (a0c ?_);show RR s a pN (.i .i64 (IntKind.i64.wrap n)::st3 s a' false);rw[wrp (by omega) (by omega)];exact⟨[.i .i64 n],_,r,a',rfl,by unfold pN;rw[h2];simp only;rw[if_pos h];rfl,rfl,h3⟩
  ·have h:65536≤n:=h;show Go _ _ num _ _ _ _ _ 1 0 (.goto 1002009 (.i .u64 n::(st3 s a' false++ [.b false])));refine a1e (f:=false) a3l rfl rfl (bd0 rfl) rfl (fun _=> ?_) fun h=>by cases h
   unfold pN;rw[h2];simp only;rw[if_neg (by omega)]
 ·refine a0C ?_;show Go _ _ num _ _ _ _ _ 2 0 (.goto 1002004 (.i .u64 0::st3 s s.size true));refine c3z (s:=s) (a:=s.size) (f:=true) a5a rfl rfl (bd0 rfl) rfl ?_;refine a3d (fun h=>by cases h) fun _=>a0C ?_;show Go _ _ num _ _ _ _ _ 1 0 (.goto 1002009 (.i .u64 0::(st3 s s.size true++ [.b false])));refine a1e (f:=false) a3l rfl rfl (bd0 rfl) rfl (fun _=> ?_) fun h=>by cases h
  unfold pN;rw[h2]
theorem c7m:CoOK Try.prog d7h:=by
 refine b3N e2b Try.func73 d5l [] pI _ rfl rfl 3 0 (fun _ _ _ _=>False) (fun _ _=>0) (fun q hq=>by cases hq) (fun q hq=>by simp only[who,List.mem_cons,List.not_mem_nil,or_false]at hq;rcases hq with rfl|rfl|rfl<;>rfl) ?_ (fun _ _ q hq=>by cases hq) (fun _ _ _ _ _ q hq=>by cases hq);intro s a h0 h1 mx;show wp _ d2F _ _;unfold d2F;refine a0C ?_;show Go _ _ who _ _ _ _ _ 3 0 (.goto 1001004 (st3 s a false));refine a3m a9m d4s rfl rfl (bd0 rfl) (fun _=>⟨s,a,rfl,h0,h1⟩) (fun h=>h.elim) fun us h _=> ?_;obtain⟨s',a',e1,h⟩:=h;obtain⟨rfl,rfl⟩:=a6a (s:=s) (a:=a) e1;rcases h with⟨n,r,a',h2,rfl,h3⟩|⟨h2,rfl⟩
 ·refine a0C ?_;show Go _ _ who _ _ _ _ _ 2 0 (.goto 1002004 (.i .i64 (a7w n)::st3 s a' false));refine c3z (s:=s) (a:=a') (f:=false) a5M rfl rfl (bd0 rfl) rfl (a0C ?_);show Go _ _ who _ _ _ _ _ 1 0 (.goto 1002005 (.i .i64 (a7w n):: .b true::st3 s a' false));refine a1e (f:=true) a5L rfl rfl (bd0 rfl) rfl (fun h=>by cases h) fun _=>a0c ?_;exact⟨[.i .i64 (a7w n)],_,r,a',rfl,by unfold pI;rw[h2];rfl,rfl,h3⟩
 ·refine a0C ?_;show Go _ _ who _ _ _ _ _ 2 0 (.goto 1002004 (.i .i64 0::st3 s s.size true));refine c3z (s:=s) (a:=s.size) (f:=true) a5M rfl rfl (bd0 rfl) rfl (a0C ?_);show Go _ _ who _ _ _ _ _ 1 0 (.goto 1002005 (.i .i64 0:: .b false::st3 s s.size true));refine a1e (f:=false) a5L rfl rfl (bd0 rfl) rfl (fun _=> ?_) fun h=>by cases h
  unfold pI;rw[h2]
end
end Go.Proofs.Ytmmmknhdigapkaa.poolCut
