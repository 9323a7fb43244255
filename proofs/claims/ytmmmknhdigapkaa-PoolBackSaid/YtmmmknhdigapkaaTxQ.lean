/-
  What the reader takes is what the writer writes: plain lists of bytes.
-/
import Derived.Test.YtmmmknhdigapkaaTxP
import Derived.Test.YtmmmknhdigapkaaTxH
namespace Go.Proofs.Ytmmmknhdigapkaa.poolBack
open Go.Ev Go.RowKit Go.Proofs.Ytmmmknhdigapkaa.poolS Go.Proofs.Ytmmmknhdigapkaa.plq
set_option linter.unusedVariables false
noncomputable section
def Byt(l:List Int):Prop:= ∀c∈l,0≤c∧c<256
theorem Byt.app{a b:List Int}(h:Byt (a++b)):Byt b:=fun c hc=>h c (List.mem_append_right _ hc)
def N16(n:Int):Prop:=0≤n∧n<65536
theorem N16.u{n:Int}(h:N16 n):U64 n:=⟨h.1,by have:=h.2;omega⟩
theorem a4H{l r:List Int}{y:List G}(hb:Byt l)(h:pN l=some (y,r)): ∃n,y= [.i .i64 n]∧N16 n∧l=a0U n++r:=by
 unfold pN at h;split at h
 ·rename_i n r hu;split at h
  ·rename_i hn;cases h;obtain⟨h1,h2⟩:=c0L hu hb;exact⟨n,rfl,⟨h1.1,hn⟩,h2⟩
  ·cases h
 ·cases h
theorem a2p{n:Int}{r:List Int}(h:N16 n):pN (a0U n++r)=some ([.i .i64 n],r):=by unfold pN;rw[d3K h.u];exact if_pos h.2
theorem c5K{n:Int}(h:I64 n):a7v (zig n)=n:=by unfold a7v zig;split<;>split<;>omega
theorem d5f{n:Int}(h:I64 n):U64 (zig n):=by obtain⟨h1,h2⟩:=h;unfold zig;split<;>exact⟨by omega,by omega⟩
theorem c4u{m:Int}(h:U64 m):zig (a7v m)=m∧I64 (a7v m):=by obtain⟨h1,h2⟩:=h;unfold a7v zig I64;split<;>split<;>omega
theorem c2B{l r:List Int}{y:List G}(hb:Byt l)(h:pI l=some (y,r)): ∃n,y= [.i .i64 n]∧I64 n∧l=a0U (zig n)++r:=by
 unfold pI at h;split at h
 ·rename_i n r hu;cases h;obtain⟨h1,h2⟩:=c0L hu hb;obtain⟨h3,h4⟩:=c4u h1;exact⟨_,rfl,h4,by rw[h3];exact h2⟩
 ·cases h
theorem c2C{n:Int}{r:List Int}(h:I64 n):pI (a0U (zig n)++r)=some ([.i .i64 n],r):=by unfold pI;rw[d3K (d5f h)];simp only[c5K h]
theorem c2G{l:List Int}(h:Byt l):numsOf (strOfNums l)=l:=by unfold numsOf strOfNums;simp only[List.map_map];rw[List.map_congr_left (g:=id),List.map_id];intro c hc;obtain⟨h0,h1⟩:=h c hc;simp only[Function.comp_apply,id_eq,UInt8.toNat_ofNat'];omega
theorem a7N(s:ByteArray):strOfNums (numsOf s)=s:=by have:=c1h s [];rw[List.append_nil]at this;rw[this];exact ByteArray.append_empty
theorem c9H(l:List Int):(strOfNums l).size=l.length:=by simp[strOfNums,ByteArray.size]
theorem b5A(s t:ByteArray):numsOf (s++t)=numsOf s++numsOf t:=by unfold numsOf;rw[ByteArray.data_append,Array.toList_append,List.map_append]
theorem d6i{l r:List Int}{y:List G}(hb:Byt l)(h:pT l=some (y,r)): ∃x,y= [.s x]∧(x.size:Int)<18446744073709551616∧l=a0U x.size++(numsOf x++r):=by
 unfold pT at h;split at h
 ·rename_i n r hu;split at h
  ·rename_i hn;cases h;obtain⟨h1,h2⟩:=c0L hu hb
   have hbr:Byt r:=by rw[h2]at hb;exact hb.app
   have hs:((strOfNums (r.take n.toNat)).size:Int)=n:=by rw[c9H,List.length_take];have:=h1.1;omega
   refine⟨_,rfl,by rw[hs];exact h1.2, ?_⟩;rw[hs,c2G fun c hc=>hbr c (List.mem_of_mem_take hc),List.take_append_drop];exact h2
  ·cases h
 ·cases h
theorem d6k{x:ByteArray}{r:List Int}(h:(x.size:Int)<18446744073709551616):pT (a0U x.size++(numsOf x++r))=some ([.s x],r):=by unfold pT;rw[d3K ⟨by omega,h⟩];have hl:=b3w x;simp only[List.length_append,hl];rw[if_pos (by omega),Int.toNat_natCast,List.take_append_of_le_length (by omega),List.drop_append_of_le_length (by omega),List.take_of_length_le (by omega),List.drop_of_length_le (by omega),a7N,List.nil_append]
section
variable{p:Pr}{e:List G→List Int}{ok:List G→Prop}
def Snd(p:Pr)(e:List G→List Int)(ok:List G→Prop):Prop:= ∀l y r,Byt l→p l=some (y,r)→ok y∧l=e y++r
def Cpl(p:Pr)(e:List G→List Int)(ok:List G→Prop):Prop:= ∀y r,ok y→p (e y++r)=some (y,r)
theorem b4s(hp:Snd p e ok): ∀{n:Nat} {l r:List Int} {ys:List (List G)},Byt l→a7B p n l=some (ys,r)→(∀y∈ys,ok y)∧ys.length=n∧l=ys.flatMap e++r
 |0,l,r,ys,hb,h=>by cases h;exact⟨(fun y hy=>by cases hy),rfl,rfl⟩
 |n+1,l,r,ys,hb,h=>by
  simp only[a7B]at h;obtain⟨z,h1,h2⟩:=Option.bind_eq_some_iff.1 h;obtain⟨y,h3,h4⟩:=Option.bind_eq_some_iff.1 h2;cases h4;obtain⟨g1,g2⟩:=hp _ _ _ hb h1;obtain⟨g3,g4,g5⟩:=b4s hp (by rw[g2]at hb;exact hb.app) h3;refine⟨fun x hx=> ?_,by rw[List.length_cons,g4], ?_⟩
  ·rcases List.mem_cons.1 hx with rfl|hx
   ·exact g1
   ·exact g3 x hx
  ·rw[List.flatMap_cons,List.append_assoc,←g5];exact g2
theorem c1x(hp:Cpl p e ok): ∀{ys:List (List G)} {r:List Int},(∀y∈ys,ok y)→a7B p ys.length (ys.flatMap e++r)=some (ys,r)
 | [],r,_=>rfl
 |y::ys,r,h=>by have h1:=hp y (ys.flatMap e++r) (h y List.mem_cons_self);have h2:=c1x hp (r:=r) fun x hx=>h x (List.mem_cons_of_mem _ hx);show(p ((y::ys).flatMap e++r)).bind _=_;rw[List.flatMap_cons,List.append_assoc,h1,Option.bind_some,h2,Option.bind_some]
theorem c1z{most:Int}{l r:List Int}{y:List G}(hp:Snd p e ok)(hb:Byt l)(h:pL most p l=some (y,r)): ∃es,y= [.l (.bool false) es]∧(es.length:Int)≤most∧(∀x∈es,ok x)∧l=a0U es.length++(es.flatMap e++r):=by
 obtain⟨n,r0,es,h1,h2,h3,h4,rfl⟩:=a9H h;obtain⟨n',e1,h5,h6⟩:=a4H hb h1;cases e1;obtain⟨g1,g2,g3⟩:=b4s hp (by rw[h6]at hb;exact hb.app) h4;have:=h5.1;have hn:(es.length:Int)=n:=by omega
 exact⟨es,rfl,by omega,g1,by rw[hn,←g3];exact h6⟩
theorem c2A{most:Int}{r:List Int}{es:List (List G)}(hp:Cpl p e ok)(hm:most<65536)(hl:(es.length:Int)≤most)(h: ∀x∈es,ok x):pL most p (a0U es.length++(es.flatMap e++r))=some ([.l (.bool false) es],r):=by refine c6F (a2p ⟨by omega,by omega⟩) hl ?_;rw[Int.toNat_natCast];exact c1x hp h
end
def d4R(y:List G):List Int:=a0U (y.getD 0 .d).int
def c9a(y:List G):Prop:= ∃n,y= [.i .i64 n]∧N16 n
theorem c6M:Snd pN d4R c9a:=fun l y r hb h=>by obtain⟨n,rfl,h1,h2⟩:=a4H hb h;exact⟨⟨n,rfl,h1⟩,h2⟩
theorem d3N:Cpl pN d4R c9a:=fun y r h=>by obtain⟨n,rfl,h1⟩:=h;exact a2p h1
def d1d(y:List G):List Int:=a0U (y.getD 0 .d).int++(a0U (zig (y.getD 1 .d).int)++a0U (zig (y.getD 2 .d).int))
def c9b(y:List G):Prop:= ∃a b c,y= [.i .i64 a,.i .i64 b,.i .i64 c]∧N16 a∧I64 b∧I64 c
theorem d3w:Snd b4v d1d c9b:=fun l y r hb h=>by
 unfold b4v at h;obtain⟨x,h1,h⟩:=Option.bind_eq_some_iff.1 h;obtain⟨y',h2,h⟩:=Option.bind_eq_some_iff.1 h;obtain⟨z,h3,h⟩:=Option.bind_eq_some_iff.1 h;obtain⟨a,ha,b1,e1⟩:=a4H hb h1;have hb1:Byt x.2:=by rw[e1]at hb;exact hb.app
 obtain⟨b,hb',b2,e2⟩:=c2B hb1 h2;have hb2:Byt y'.2:=by rw[e2]at hb1;exact hb1.app
 obtain⟨c,hc,b3,e3⟩:=c2B hb2 h3;cases h;rw[ha,hb',hc];refine⟨⟨a,b,c,rfl,b1,b2,b3⟩, ?_⟩;show l=(a0U a++(a0U (zig b)++a0U (zig c)))++_;rw[e1,e2,e3];simp only[List.append_assoc]
theorem d3y:Cpl b4v d1d c9b:=fun y r h=>by obtain⟨a,b,c,rfl,h1,h2,h3⟩:=h;show b4v ((a0U a++(a0U (zig b)++a0U (zig c)))++r)=_;simp only[b4v,List.append_assoc,a2p h1,c2C h2,c2C h3,Option.bind_some];rfl
theorem d1M{l r:List Int}{y:List G}(hb:Byt l)(h:pM l=some (y,r)): ∃a b c d,y= [.i .i64 a,.i .i64 b,.i .i64 c,.i .i64 d]∧(N16 a∧N16 b∧N16 c∧N16 d)∧l=a0U a++(a0U b++(a0U c++(a0U d++r))):=by
 unfold pM at h;obtain⟨⟨ys,r'⟩,h1,h2⟩:=Option.map_eq_some_iff.1 h;cases h2;obtain⟨g1,g2,g3⟩:=b4s c6M hb h1
 match ys,g2 with
 | [a,b,c,d],_=>obtain⟨a',rfl,k1⟩:=g1 a (by simp);obtain⟨b',rfl,k2⟩:=g1 b (by simp);obtain⟨c',rfl,k3⟩:=g1 c (by simp);obtain⟨d',rfl,k4⟩:=g1 d (by simp);refine⟨a',b',c',d',rfl,⟨k1,k2,k3,k4⟩, ?_⟩;rw[g3];simp only[List.flatMap_cons,List.flatMap_nil,List.append_assoc,List.nil_append];rfl
theorem d1N{a b c d:Int}{r:List Int}(ha:N16 a)(hb:N16 b)(hc:N16 c)(hd:N16 d):pM (a0U a++(a0U b++(a0U c++(a0U d++r))))=some ([.i .i64 a,.i .i64 b,.i .i64 c,.i .i64 d],r):=by simp only[pM,a7B,a2p ha,a2p hb,a2p hc,a2p hd,Option.bind_some,Option.map_some];rfl
theorem Byt.of{l a b:List Int}(h:Byt l)(e:l=a++b):Byt b:=by rw[e]at h;exact h.app
def eAb(y:List G):List Int:=
 a0U (y.getD 0 .d).int++(a0U (y.getD 1 .d).int++(a0U (y.getD 2 .d).int++(a0U (y.getD 3 .d).int++(a0U (y.getD 4 .d).int++(a0U (y.getD 5 .d).int++(a0U (y.getD 6 .d).int++(a0U (c3i (y.getD 7 .d).bool)++
 (a0U (y.getD 8 .d).es.length++((y.getD 8 .d).es.flatMap d4R++(a0U (y.getD 9 .d).es.length++((y.getD 9 .d).es.flatMap d1d++(a0U (y.getD 10 .d).int++(a0U (zig (y.getD 11 .d).int)++a0U (zig (y.getD 12 .d).int))))))))))))))
def d6r(y:List G):Prop:= ∃n0 n1 n2 n3 n4 n5 n6 tap tg code n10 n11 n12,y= [.i .i64 n0,.i .i64 n1,.i .i64 n2,.i .i64 n3,.i .i64 n4,.i .i64 n5,.i .i64 n6,.b tap,.l (.bool false) tg,.l (.bool false) code,.i .i64 n10,.i .i64 n11,.i .i64 n12]∧
 (N16 n0∧N16 n1∧N16 n2∧N16 n3∧N16 n4∧N16 n5∧N16 n6∧N16 n10∧I64 n11∧I64 n12)∧((tg.length:Int)≤2∧ ∀x∈tg,c9a x)∧(code.length:Int)≤32∧ ∀x∈code,c9b x
theorem d8c:Snd pAb eAb d6r:=fun l y r hb h=>by
 unfold pAb at h;obtain⟨k,h1,h⟩:=Option.bind_eq_some_iff.1 h;obtain⟨n0,y0,b0,e0⟩:=a4H hb h1;have hb:=hb.of e0;obtain⟨e,h2,h⟩:=Option.bind_eq_some_iff.1 h;obtain⟨n1,y1,b1,e1⟩:=a4H hb h2;have hb:=hb.of e1;obtain⟨w,h3,h⟩:=Option.bind_eq_some_iff.1 h;obtain⟨n2,y2,b2,e2⟩:=a4H hb h3;have hb:=hb.of e2;obtain⟨m,h4,h⟩:=Option.bind_eq_some_iff.1 h;obtain⟨n3,n4,n5,n6,y3,⟨b3,b4,b5,b6⟩,e3⟩:=d1M hb h4;have hb:=(((hb.of e3).app).app).app;obtain⟨t,h5,h⟩:=Option.bind_eq_some_iff.1 h;obtain⟨nt,yt,bt,et⟩:=a4H hb h5;have hb:=hb.of et;split at h
 ·rename_i htp;obtain⟨g,h6,h⟩:=Option.bind_eq_some_iff.1 h;obtain⟨tg,yg,lg,og,eg⟩:=c1z c6M hb h6;have hb:=(hb.of eg).app;obtain⟨c,h7,h⟩:=Option.bind_eq_some_iff.1 h;obtain⟨cd,yc,lc,oc,ec⟩:=c1z d3w hb h7;have hb:=(hb.of ec).app;obtain⟨o,h8,h⟩:=Option.bind_eq_some_iff.1 h;obtain⟨n10,y10,b10,e10⟩:=a4H hb h8;have hb:=hb.of e10;obtain⟨a,h9,h⟩:=Option.bind_eq_some_iff.1 h;obtain⟨n11,y11,b11,e11⟩:=c2B hb h9;have hb:=hb.of e11;obtain⟨b,h10,h⟩:=Option.bind_eq_some_iff.1 h;obtain⟨n12,y12,b12,e12⟩:=c2B hb h10;cases h;rw[yt]at htp;simp only[List.getD_cons_zero,a0D]at htp;rw[y0,y1,y2,y3,yt,yg,yc,y10,y11,y12];refine⟨⟨n0,n1,n2,n3,n4,n5,n6,_,tg,cd,n10,n11,n12,rfl,⟨b0,b1,b2,b3,b4,b5,b6,b10,b11,b12⟩,⟨lg,og⟩,lc,oc⟩, ?_⟩
  have ht:c3i (decide (nt=1))=nt:=by
   have:=bt.1;unfold c3i
   by_cases h:nt=1
   ·simp[h]
   ·simp[h];omega
  show l=(a0U n0++(a0U n1++(a0U n2++(a0U n3++(a0U n4++(a0U n5++(a0U n6++(a0U (c3i (decide (nt=1)))++(a0U tg.length++(tg.flatMap d4R++(a0U cd.length++(cd.flatMap d1d++(a0U n10++(a0U (zig n11)++a0U (zig n12)))))))))))))))++_;rw[ht,e0,e1,e2,e3,et,eg,ec,e10,e11,e12];simp only[List.append_assoc]
 ·cases h
theorem d8e:Cpl pAb eAb d6r:=fun y r h=>by
 obtain⟨n0,n1,n2,n3,n4,n5,n6,tap,tg,code,n10,n11,n12,rfl,⟨b0,b1,b2,b3,b4,b5,b6,b10,b11,b12⟩,⟨lg,og⟩,lc,oc⟩:=h;show pAb ((a0U n0++(a0U n1++(a0U n2++(a0U n3++(a0U n4++(a0U n5++(a0U n6++(a0U (c3i tap)++(a0U tg.length++(tg.flatMap d4R++(a0U code.length++(code.flatMap d1d++(a0U n10++(a0U (zig n11)++a0U (zig n12)))))))))))))))++r)=_;have bt:N16 (c3i tap):=by cases tap<;>exact⟨by decide,by decide⟩
 have ht:c3i tap≤1:=by cases tap<;>decide
 have hd:decide (c3i tap=1)=tap:=by cases tap<;>decide
 simp only[pAb,List.append_assoc,a2p b0,a2p b1,a2p b2,d1N b3 b4 b5 b6,a2p bt,Option.bind_some,List.getD_cons_zero,a0D,if_pos ht,c2A d3N (by decide) lg og,c2A d3y (by decide) lc oc,a2p b10,c2C b11,c2C b12,hd];rfl
def eCd(y:List G):List Int:=
 a0U (y.getD 0 .d).str.size++(numsOf (y.getD 0 .d).str++(a0U (y.getD 1 .d).int++(a0U (y.getD 2 .d).int++(a0U (y.getD 3 .d).int++(a0U (y.getD 4 .d).int++(a0U (y.getD 5 .d).int++(a0U (y.getD 6 .d).int++(a0U (y.getD 7 .d).int++(a0U (y.getD 8 .d).int++(a0U (y.getD 9 .d).int++
 (a0U (y.getD 10 .d).es.length++(y.getD 10 .d).es.flatMap eAb)))))))))))
def c3t(y:List G):Prop:= ∃s n1 n2 n3 n4 n5 n6 n7 n8 n9 abs,y= [.s s,.i .i64 n1,.i .i64 n2,.i .i64 n3,.i .i64 n4,.i .i64 n5,.i .i64 n6,.i .i64 n7,.i .i64 n8,.i .i64 n9,.l (.bool false) abs]∧
 (s.size:Int)<18446744073709551616∧(N16 n1∧N16 n2∧N16 n3∧N16 n4∧N16 n5∧N16 n6∧N16 n7∧N16 n8∧N16 n9)∧(abs.length:Int)≤4∧ ∀x∈abs,d6r x
theorem d7v:Snd pCd eCd c3t:=fun l y r hb h=>by unfold pCd at h;obtain⟨n,h1,h⟩:=Option.bind_eq_some_iff.1 h;obtain⟨s,y0,b0,e0⟩:=d6i hb h1;have hb:=(hb.of e0).app;obtain⟨k,h2,h⟩:=Option.bind_eq_some_iff.1 h;obtain⟨n1,y1,b1,e1⟩:=a4H hb h2;have hb:=hb.of e1;obtain⟨m,h3,h⟩:=Option.bind_eq_some_iff.1 h;obtain⟨n2,n3,n4,n5,y2,⟨b2,b3,b4,b5⟩,e2⟩:=d1M hb h3;have hb:=(((hb.of e2).app).app).app;obtain⟨c,h4,h⟩:=Option.bind_eq_some_iff.1 h;obtain⟨n6,y6,b6,e6⟩:=a4H hb h4;have hb:=hb.of e6;obtain⟨p,h5,h⟩:=Option.bind_eq_some_iff.1 h;obtain⟨n7,y7,b7,e7⟩:=a4H hb h5;have hb:=hb.of e7;obtain⟨t,h6,h⟩:=Option.bind_eq_some_iff.1 h;obtain⟨n8,y8,b8,e8⟩:=a4H hb h6;have hb:=hb.of e8;obtain⟨y',h7,h⟩:=Option.bind_eq_some_iff.1 h;obtain⟨n9,y9,b9,e9⟩:=a4H hb h7;have hb:=hb.of e9;obtain⟨a,h8,h⟩:=Option.bind_eq_some_iff.1 h;obtain⟨abs,ya,la,oa,ea⟩:=c1z d8c hb h8;cases h;rw[y0,y1,y2,y6,y7,y8,y9,ya];refine⟨⟨s,n1,n2,n3,n4,n5,n6,n7,n8,n9,abs,rfl,b0,⟨b1,b2,b3,b4,b5,b6,b7,b8,b9⟩,la,oa⟩, ?_⟩;show l=(a0U s.size++(numsOf s++(a0U n1++(a0U n2++(a0U n3++(a0U n4++(a0U n5++(a0U n6++(a0U n7++(a0U n8++(a0U n9++(a0U abs.length++abs.flatMap eAb))))))))))))++_;rw[e0,e1,e2,e6,e7,e8,e9,ea];simp only[List.append_assoc]
theorem d7x:Cpl pCd eCd c3t:=fun y r h=>by obtain⟨s,n1,n2,n3,n4,n5,n6,n7,n8,n9,abs,rfl,b0,⟨b1,b2,b3,b4,b5,b6,b7,b8,b9⟩,la,oa⟩:=h;show pCd ((a0U s.size++(numsOf s++(a0U n1++(a0U n2++(a0U n3++(a0U n4++(a0U n5++(a0U n6++(a0U n7++(a0U n8++(a0U n9++(a0U abs.length++abs.flatMap eAb))))))))))))++r)=_;simp only[pCd,List.append_assoc,d6k b0,a2p b1,d1N b2 b3 b4 b5,a2p b6,a2p b7,a2p b8,a2p b9,Option.bind_some,c2A d8e (by decide) la oa];rfl
theorem b2o(g:G):(er g).int=g.int:=by
 cases g with
 |w es=>show((erLL es).length:Int)=es.length;rw[a0l,List.length_map]
 |_=>rfl
theorem c7h(g:G):(er g).bool=g.bool:=by cases g<;>rfl
theorem d1c(g:G):(er g).str=g.str:=by cases g<;>rfl
theorem a8N(es:List (List G)):(erLL es).length=es.length:=by rw[a0l,List.length_map]
theorem d2d(x:List G):c3f (erL x)=c3f x:=by
 simp only[c3f,a2h,b2o,c7h,b3Y,a0l,List.map_map]
 congr 1<;>(apply List.map_congr_left;intro y _;simp only[Function.comp_apply,d2c,a2h,b2o])
def core(D:Cx):Cx:=⟨D.name,D.kind,D.c0,D.c1,D.c2,D.c3,D.color,D.power,D.tough,D.keys,D.abs,none,0,0,0,fun _=>none,fun _=>0,fun _=>0,fun _=>0,fun _=>none,fun _=>0,fun _=>0,fun _=>0⟩
theorem d4Z(x:List G):core (b1h (erL x))=core (b1h x):=by
 simp only[core,b1h,a2h,b2o,d1c,b3Y,a0l,List.map_map]
 congr 1
 apply List.map_congr_left;intro y _;exact d2d y
theorem c5a(D:Cx)(n:Int):(core D).spec n=D.spec n:=rfl
theorem c0f(cs:List Cx)(b:Int):a4N (cs.map core) b=a4N cs b:=by unfold a4N;rw[List.getElem?_map];cases cs[b.toNat]? <;>rfl
theorem c8G(cs:List Cx)(D:Cx):c8f (cs.map core) (core D)=c8f cs D:=by
 unfold c8f;show D.abs.any _=_
 congr 1
 funext x
 unfold d8V
 congr 1
 funext y
 unfold d0f;rw[c0f]
theorem c9c(cs:List Cx)(D:Cx):okD (cs.map core) (core D)=okD cs D:=by unfold okD;rw[c8G,List.length_map,c5a]
open Classical in
theorem c2x(cs:List Cx)(a a':Option Addr)(b c d b' c' d':Nat):PL.chk ⟨cs.map core,a,b,c,d⟩=PL.chk ⟨cs,a',b',c',d'⟩:=by
 have h1:(cs.map core).all (okD (cs.map core))=cs.all (okD cs):=by
  rw[List.all_map]
  congr 1
  funext D
  exact c9c cs D
 have h2: ∀i,((⟨cs.map core,a,b,c,d⟩:PL).at i).name=((⟨cs,a',b',c',d'⟩:PL).at i).name:=by intro i;unfold PL.at;simp only[List.getD_eq_getElem?_getD,List.getElem?_map];cases cs[i]? <;>rfl
 have h3:(⟨cs.map core,a,b,c,d⟩:PL).dup=(⟨cs,a',b',c',d'⟩:PL).dup:=by unfold PL.dup;simp only[h2,List.length_map]
 unfold PL.chk;dsimp only;rw[List.length_map,h1];exact ite_congr rfl (fun _=>rfl) fun _=>ite_congr rfl (fun _=>rfl) fun _=>ite_congr rfl (fun _=>ite_congr h3 (fun _=>rfl) fun _=>rfl) fun _=>rfl
theorem d1h(es:List (List G)):a3r (erLL es)=a3r es:=by
 unfold a3r;rw[←c2x ((erLL es).map b1h) none none 0 0 0 0 0 0,←c2x (es.map b1h) none none 0 0 0 0 0 0,a0l,List.map_map,List.map_map,List.map_map]
 congr 2
 apply List.map_congr_left;intro x _;exact d4Z x
theorem c2w{es es':List (List G)}(h:erLL es=erLL es'):a3r es=a3r es':=by rw[←d1h es,h,d1h]
theorem d3U(s:ByteArray)(es:List (List G)):a5D s (erLL es)=a5D s es:=by unfold a5D;rw[a0l,List.foldl_map];simp only[a2h,b2o]
theorem d4a(s:ByteArray)(es:List (List G)):a7i s (erLL es)=a7i s es:=by unfold a7i;rw[a0l,List.foldl_map];simp only[a2h,b2o]
theorem d8h(s:ByteArray)(g:List G):poolS.abB s (erL g)=poolS.abB s g:=by unfold poolS.abB abH;simp only[a2h,b2o,c7h,b3Y,a8N,d3U,d4a]
theorem d5I(s:ByteArray)(es:List (List G)):b6G s (erLL es)=b6G s es:=by unfold b6G;rw[a0l,List.foldl_map];simp only[d8h]
theorem d0Z(s:ByteArray)(x:List G):b1D s (erL x)=b1D s x:=by unfold b1D a9f;simp only[a2h,b2o,d1c,b3Y,a8N,d5I]
theorem b5n(es:List (List G)):b3F (erLL es)=b3F es:=by unfold b3F a2J;rw[a8N,a0l,List.foldl_map];simp only[d0Z]
theorem c9g{m:Int}(h:U64 m):Byt (a0U m):=by
 obtain⟨b,t,e1,b0,b1,_,_,ht,_⟩:=b7Q h;rw[e1];intro c hc;rcases List.mem_cons.1 hc with rfl|hc
 ·exact⟨b0,b1⟩
 ·exact ht c hc
theorem b7G{m:Int}(h:U64 m):numsOf (c0Q m)=a0U m:=c2G (c9g h)
theorem a0n{s:ByteArray}{n:Int}(h:U64 n):numsOf (pn s n)=numsOf s++a0U n:=by unfold pn;rw[wrap_u64 h.1 h.2,b5A,b7G h]
theorem b4z{s:ByteArray}{n:Int}(h:I64 n):numsOf (pz s n)=numsOf s++a0U (zig n):=by unfold pz;rw[b5A,b7G (d5f h)]
theorem b3u: ∀{es:List (List G)} {s:ByteArray},(∀x∈es,c9a x)→numsOf (a5D s es)=numsOf s++es.flatMap d4R
 | [],s,_=>by simp[a5D]
 |x::es,s,h=>by obtain⟨n,rfl,hn⟩:=h x List.mem_cons_self;show numsOf (a5D (pn s n) es)=_;rw[b3u fun y hy=>h y (List.mem_cons_of_mem _ hy),a0n hn.u,List.flatMap_cons,List.append_assoc];rfl
theorem b3v: ∀{es:List (List G)} {s:ByteArray},(∀x∈es,c9b x)→numsOf (a7i s es)=numsOf s++es.flatMap d1d
 | [],s,_=>by simp[a7i]
 |x::es,s,h=>by obtain⟨a,b,c,rfl,h1,h2,h3⟩:=h x List.mem_cons_self;show numsOf (a7i (pz (pz (pn s a) b) c) es)=_;rw[b3v fun y hy=>h y (List.mem_cons_of_mem _ hy),b4z h3,b4z h2,a0n h1.u,List.flatMap_cons];show _=numsOf s++((a0U a++(a0U (zig b)++a0U (zig c)))++es.flatMap d1d);simp only[List.append_assoc]
theorem c9s{n:Nat}(h:(n:Int)<65536):U64 (n:Int):=⟨by omega,by omega⟩
theorem c9e{s:ByteArray}{y:List G}(h:d6r y):numsOf (poolS.abB s y)=numsOf s++eAb y:=by
 obtain⟨n0,n1,n2,n3,n4,n5,n6,tap,tg,code,n10,n11,n12,rfl,⟨b0,b1,b2,b3,b4,b5,b6,b10,b11,b12⟩,⟨lg,og⟩,lc,oc⟩:=h;have bt:U64 (c3i tap):=by cases tap<;>exact⟨by decide,by decide⟩
 show numsOf (pz (pz (pn (a7i (pn (a5D (pn (pn (pn (pn (pn (pn (pn (pn (pn s n0) n1) n2) n3) n4) n5) n6) (c3i tap)) tg.length) tg) code.length) code) n10) n11) n12)=numsOf s++(a0U n0++(a0U n1++(a0U n2++(a0U n3++(a0U n4++(a0U n5++(a0U n6++(a0U (c3i tap)++(a0U tg.length++(tg.flatMap d4R++(a0U code.length++(code.flatMap d1d++(a0U n10++(a0U (zig n11)++a0U (zig n12)))))))))))))));rw[b4z b12,b4z b11,a0n b10.u,b3v oc,a0n (c9s (by omega)),b3u og,a0n (c9s (by omega)),a0n bt,a0n b6.u,a0n b5.u,a0n b4.u,a0n b3.u,a0n b2.u,a0n b1.u,a0n b0.u];simp only[List.append_assoc]
theorem b7J: ∀{es:List (List G)} {s:ByteArray},(∀x∈es,d6r x)→numsOf (b6G s es)=numsOf s++es.flatMap eAb
 | [],s,_=>by simp[b6G]
 |x::es,s,h=>by show numsOf (b6G (poolS.abB s x) es)=_;rw[b7J fun y hy=>h y (List.mem_cons_of_mem _ hy),c9e (h x List.mem_cons_self),List.flatMap_cons,List.append_assoc]
theorem c3v{s:ByteArray}{y:List G}(h:c3t y):numsOf (b1D s y)=numsOf s++eCd y:=by obtain⟨t,n1,n2,n3,n4,n5,n6,n7,n8,n9,abs,rfl,b0,⟨b1,b2,b3,b4,b5,b6,b7,b8,b9⟩,la,oa⟩:=h;show numsOf (b6G (pn (pn (pn (pn (pn (pn (pn (pn (pn (pn (pn s t.size++t) n1) n2) n3) n4) n5) n6) n7) n8) n9) abs.length) abs)=numsOf s++(a0U t.size++(numsOf t++(a0U n1++(a0U n2++(a0U n3++(a0U n4++(a0U n5++(a0U n6++(a0U n7++(a0U n8++(a0U n9++(a0U abs.length++abs.flatMap eAb))))))))))));rw[b7J oa,a0n (c9s (by omega)),a0n b9.u,a0n b8.u,a0n b7.u,a0n b6.u,a0n b5.u,a0n b4.u,a0n b3.u,a0n b2.u,a0n b1.u,b5A,a0n ⟨by omega,b0⟩];simp only[List.append_assoc]
theorem b2F: ∀{es:List (List G)} {s:ByteArray},(∀x∈es,c3t x)→numsOf (a2J s es)=numsOf s++es.flatMap eCd
 | [],s,_=>by simp[a2J]
 |x::es,s,h=>by show numsOf (a2J (b1D s x) es)=_;rw[b2F fun y hy=>h y (List.mem_cons_of_mem _ hy),c3v (h x List.mem_cons_self),List.flatMap_cons,List.append_assoc]
theorem b7H{es:List (List G)}(hl:(es.length:Int)≤40)(h: ∀x∈es,c3t x):numsOf (b3F es)=a0U es.length++es.flatMap eCd:=by unfold b3F;rw[b2F h,a0n (c9s (by omega)),show numsOf ⟨#[]⟩= []from rfl,List.nil_append]
theorem c9d{s t:ByteArray}(h:numsOf s=numsOf t):s=t:=by rw[←a7N s,h,a7N]
theorem d0e(s:ByteArray):Byt (numsOf s):=fun c hc=>b7I hc
theorem c5p{s:ByteArray}{es:List (List G)}{r:List Int}(h:pL 40 pCd (numsOf s)=some ([.l (.bool false) es],r)):(es.length:Int)≤40∧(∀x∈es,c3t x)∧numsOf s=numsOf (b3F es)++r:=by
 obtain⟨es',e1,h1,h2,h3⟩:=c1z d7v (d0e s) h;obtain rfl:es=es':=by simpa using e1
 exact⟨h1,h2,by rw[b7H h1 h2,List.append_assoc];exact h3⟩
theorem c3X{es:List (List G)}{r:List Int}(hl:(es.length:Int)≤40)(h: ∀x∈es,c3t x):pL 40 pCd (numsOf (b3F es)++r)=some ([.l (.bool false) es],r):=by rw[b7H hl h,List.append_assoc];exact c2A d7x (by decide) hl h
end
end Go.Proofs.Ytmmmknhdigapkaa.poolBack
