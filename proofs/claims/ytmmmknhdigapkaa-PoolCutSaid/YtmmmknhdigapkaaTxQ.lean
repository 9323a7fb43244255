/-
  What the reader takes is what the writer writes: plain lists of bytes.
-/
import Derived.Test.YtmmmknhdigapkaaTxP
import Derived.Test.YtmmmknhdigapkaaTxH
namespace Go.Proofs.Ytmmmknhdigapkaa.poolCut
open Go.Ev Go.RowKit Go.Proofs.Ytmmmknhdigapkaa.poolS Go.Proofs.Ytmmmknhdigapkaa.plq
set_option linter.unusedVariables false
noncomputable section
def Byt(l:List Int):Prop:= ∀c∈l,0≤c∧c<256
theorem Byt.app{a b:List Int}(h:Byt (a++b)):Byt b:=fun c hc=>h c (List.mem_append_right _ hc)
def N16(n:Int):Prop:=0≤n∧n<65536
theorem N16.u{n:Int}(h:N16 n):U64 n:=⟨h.1,by have:=h.2;omega⟩
theorem a4G{l r:List Int}{y:List G}(hb:Byt l)(h:pN l=some (y,r)): ∃n,y= [.i .i64 n]∧N16 n∧l=a0U n++r:=by
 unfold pN at h;split at h
 ·rename_i n r hu;split at h
  ·rename_i hn;cases h;obtain⟨h1,h2⟩:=c0J hu hb;exact⟨n,rfl,⟨h1.1,hn⟩,h2⟩
  ·cases h
 ·cases h
theorem a2n{n:Int}{r:List Int}(h:N16 n):pN (a0U n++r)=some ([.i .i64 n],r):=by unfold pN;rw[d3I h.u];exact if_pos h.2
theorem c5G{n:Int}(h:I64 n):a7w (zig n)=n:=by unfold a7w zig;split<;>split<;>omega
theorem d5e{n:Int}(h:I64 n):U64 (zig n):=by obtain⟨h1,h2⟩:=h;unfold zig;split<;>exact⟨by omega,by omega⟩
theorem c4p{m:Int}(h:U64 m):zig (a7w m)=m∧I64 (a7w m):=by obtain⟨h1,h2⟩:=h;unfold a7w zig I64;split<;>split<;>omega
theorem c1y{l r:List Int}{y:List G}(hb:Byt l)(h:pI l=some (y,r)): ∃n,y= [.i .i64 n]∧I64 n∧l=a0U (zig n)++r:=by
 unfold pI at h;split at h
 ·rename_i n r hu;cases h;obtain⟨h1,h2⟩:=c0J hu hb;obtain⟨h3,h4⟩:=c4p h1;exact⟨_,rfl,h4,by rw[h3];exact h2⟩
 ·cases h
theorem c1z{n:Int}{r:List Int}(h:I64 n):pI (a0U (zig n)++r)=some ([.i .i64 n],r):=by unfold pI;rw[d3I (d5e h)];simp only[c5G h]
theorem b4z{l:List Int}(h:Byt l):numsOf (strOfNums l)=l:=by unfold numsOf strOfNums;simp only[List.map_map];rw[List.map_congr_left (g:=id),List.map_id];intro c hc;obtain⟨h0,h1⟩:=h c hc;simp only[Function.comp_apply,id_eq,UInt8.toNat_ofNat'];omega
theorem b9x(s:ByteArray):strOfNums (numsOf s)=s:=by have:=c1e s [];rw[List.append_nil]at this;rw[this];exact ByteArray.append_empty
theorem c9D(l:List Int):(strOfNums l).size=l.length:=by simp[strOfNums,ByteArray.size]
theorem b1T(s t:ByteArray):numsOf (s++t)=numsOf s++numsOf t:=by unfold numsOf;rw[ByteArray.data_append,Array.toList_append,List.map_append]
theorem d6g{l r:List Int}{y:List G}(hb:Byt l)(h:pT l=some (y,r)): ∃x,y= [.s x]∧(x.size:Int)<18446744073709551616∧l=a0U x.size++(numsOf x++r):=by
 unfold pT at h;split at h
 ·rename_i n r hu;split at h
  ·rename_i hn;cases h;obtain⟨h1,h2⟩:=c0J hu hb
   have hbr:Byt r:=by rw[h2]at hb;exact hb.app
   have hs:((strOfNums (r.take n.toNat)).size:Int)=n:=by rw[c9D,List.length_take];have:=h1.1;omega
   refine⟨_,rfl,by rw[hs];exact h1.2, ?_⟩;rw[hs,b4z fun c hc=>hbr c (List.mem_of_mem_take hc),List.take_append_drop];exact h2
  ·cases h
 ·cases h
theorem d6i{x:ByteArray}{r:List Int}(h:(x.size:Int)<18446744073709551616):pT (a0U x.size++(numsOf x++r))=some ([.s x],r):=by unfold pT;rw[d3I ⟨by omega,h⟩];have hl:=a4J x;simp only[List.length_append,hl];rw[if_pos (by omega),Int.toNat_natCast,List.take_append_of_le_length (by omega),List.drop_append_of_le_length (by omega),List.take_of_length_le (by omega),List.drop_of_length_le (by omega),b9x,List.nil_append]
section
variable{p:Pr}{e:List G→List Int}{ok:List G→Prop}
def Snd(p:Pr)(e:List G→List Int)(ok:List G→Prop):Prop:= ∀l y r,Byt l→p l=some (y,r)→ok y∧l=e y++r
def Cpl(p:Pr)(e:List G→List Int)(ok:List G→Prop):Prop:= ∀y r,ok y→p (e y++r)=some (y,r)
theorem b4s(hp:Snd p e ok): ∀{n:Nat} {l r:List Int} {ys:List (List G)},Byt l→a7F p n l=some (ys,r)→(∀y∈ys,ok y)∧ys.length=n∧l=ys.flatMap e++r
 |0,l,r,ys,hb,h=>by cases h;exact⟨(fun y hy=>by cases hy),rfl,rfl⟩
 |n+1,l,r,ys,hb,h=>by
  simp only[a7F]at h;obtain⟨z,h1,h2⟩:=Option.bind_eq_some_iff.1 h;obtain⟨y,h3,h4⟩:=Option.bind_eq_some_iff.1 h2;cases h4;obtain⟨g1,g2⟩:=hp _ _ _ hb h1;obtain⟨g3,g4,g5⟩:=b4s hp (by rw[g2]at hb;exact hb.app) h3;refine⟨fun x hx=> ?_,by rw[List.length_cons,g4], ?_⟩
  ·rcases List.mem_cons.1 hx with rfl|hx
   ·exact g1
   ·exact g3 x hx
  ·rw[List.flatMap_cons,List.append_assoc,←g5];exact g2
theorem c1u(hp:Cpl p e ok): ∀{ys:List (List G)} {r:List Int},(∀y∈ys,ok y)→a7F p ys.length (ys.flatMap e++r)=some (ys,r)
 | [],r,_=>rfl
 |y::ys,r,h=>by have h1:=hp y (ys.flatMap e++r) (h y List.mem_cons_self);have h2:=c1u hp (r:=r) fun x hx=>h x (List.mem_cons_of_mem _ hx);show(p ((y::ys).flatMap e++r)).bind _=_;rw[List.flatMap_cons,List.append_assoc,h1,Option.bind_some,h2,Option.bind_some]
theorem c1w{most:Int}{l r:List Int}{y:List G}(hp:Snd p e ok)(hb:Byt l)(h:pL most p l=some (y,r)): ∃es,y= [.l (.bool false) es]∧(es.length:Int)≤most∧(∀x∈es,ok x)∧l=a0U es.length++(es.flatMap e++r):=by
 obtain⟨n,r0,es,h1,h2,h3,h4,rfl⟩:=a9H h;obtain⟨n',e1,h5,h6⟩:=a4G hb h1;cases e1;obtain⟨g1,g2,g3⟩:=b4s hp (by rw[h6]at hb;exact hb.app) h4;have:=h5.1;have hn:(es.length:Int)=n:=by omega
 exact⟨es,rfl,by omega,g1,by rw[hn,←g3];exact h6⟩
theorem c1x{most:Int}{r:List Int}{es:List (List G)}(hp:Cpl p e ok)(hm:most<65536)(hl:(es.length:Int)≤most)(h: ∀x∈es,ok x):pL most p (a0U es.length++(es.flatMap e++r))=some ([.l (.bool false) es],r):=by refine c6C (a2n ⟨by omega,by omega⟩) hl ?_;rw[Int.toNat_natCast];exact c1u hp h
end
def d4P(y:List G):List Int:=a0U (y.getD 0 .d).int
def c9X(y:List G):Prop:= ∃n,y= [.i .i64 n]∧N16 n
theorem c6J:Snd pN d4P c9X:=fun l y r hb h=>by obtain⟨n,rfl,h1,h2⟩:=a4G hb h;exact⟨⟨n,rfl,h1⟩,h2⟩
theorem d3L:Cpl pN d4P c9X:=fun y r h=>by obtain⟨n,rfl,h1⟩:=h;exact a2n h1
def d1a(y:List G):List Int:=a0U (y.getD 0 .d).int++(a0U (zig (y.getD 1 .d).int)++a0U (zig (y.getD 2 .d).int))
def c9Y(y:List G):Prop:= ∃a b c,y= [.i .i64 a,.i .i64 b,.i .i64 c]∧N16 a∧I64 b∧I64 c
theorem d3u:Snd b4v d1a c9Y:=fun l y r hb h=>by
 unfold b4v at h;obtain⟨x,h1,h⟩:=Option.bind_eq_some_iff.1 h;obtain⟨y',h2,h⟩:=Option.bind_eq_some_iff.1 h;obtain⟨z,h3,h⟩:=Option.bind_eq_some_iff.1 h;obtain⟨a,ha,b1,e1⟩:=a4G hb h1;have hb1:Byt x.2:=by rw[e1]at hb;exact hb.app
 obtain⟨b,hb',b2,e2⟩:=c1y hb1 h2;have hb2:Byt y'.2:=by rw[e2]at hb1;exact hb1.app
 obtain⟨c,hc,b3,e3⟩:=c1y hb2 h3;cases h;rw[ha,hb',hc];refine⟨⟨a,b,c,rfl,b1,b2,b3⟩, ?_⟩;show l=(a0U a++(a0U (zig b)++a0U (zig c)))++_;rw[e1,e2,e3];simp only[List.append_assoc]
theorem d3w:Cpl b4v d1a c9Y:=fun y r h=>by obtain⟨a,b,c,rfl,h1,h2,h3⟩:=h;show b4v ((a0U a++(a0U (zig b)++a0U (zig c)))++r)=_;simp only[b4v,List.append_assoc,a2n h1,c1z h2,c1z h3,Option.bind_some];rfl
theorem d1J{l r:List Int}{y:List G}(hb:Byt l)(h:pM l=some (y,r)): ∃a b c d,y= [.i .i64 a,.i .i64 b,.i .i64 c,.i .i64 d]∧(N16 a∧N16 b∧N16 c∧N16 d)∧l=a0U a++(a0U b++(a0U c++(a0U d++r))):=by
 unfold pM at h;obtain⟨⟨ys,r'⟩,h1,h2⟩:=Option.map_eq_some_iff.1 h;cases h2;obtain⟨g1,g2,g3⟩:=b4s c6J hb h1
 match ys,g2 with
 | [a,b,c,d],_=>obtain⟨a',rfl,k1⟩:=g1 a (by simp);obtain⟨b',rfl,k2⟩:=g1 b (by simp);obtain⟨c',rfl,k3⟩:=g1 c (by simp);obtain⟨d',rfl,k4⟩:=g1 d (by simp);refine⟨a',b',c',d',rfl,⟨k1,k2,k3,k4⟩, ?_⟩;rw[g3];simp only[List.flatMap_cons,List.flatMap_nil,List.append_assoc,List.nil_append];rfl
theorem d1K{a b c d:Int}{r:List Int}(ha:N16 a)(hb:N16 b)(hc:N16 c)(hd:N16 d):pM (a0U a++(a0U b++(a0U c++(a0U d++r))))=some ([.i .i64 a,.i .i64 b,.i .i64 c,.i .i64 d],r):=by simp only[pM,a7F,a2n ha,a2n hb,a2n hc,a2n hd,Option.bind_some,Option.map_some];rfl
theorem Byt.of{l a b:List Int}(h:Byt l)(e:l=a++b):Byt b:=by rw[e]at h;exact h.app
def eAb(y:List G):List Int:=
 a0U (y.getD 0 .d).int++(a0U (y.getD 1 .d).int++(a0U (y.getD 2 .d).int++(a0U (y.getD 3 .d).int++(a0U (y.getD 4 .d).int++(a0U (y.getD 5 .d).int++(a0U (y.getD 6 .d).int++(a0U (c3c (y.getD 7 .d).bool)++
 (a0U (y.getD 8 .d).es.length++((y.getD 8 .d).es.flatMap d4P++(a0U (y.getD 9 .d).es.length++((y.getD 9 .d).es.flatMap d1a++(a0U (y.getD 10 .d).int++(a0U (zig (y.getD 11 .d).int)++a0U (zig (y.getD 12 .d).int))))))))))))))
def d6p(y:List G):Prop:= ∃n0 n1 n2 n3 n4 n5 n6 tap tg code n10 n11 n12,y= [.i .i64 n0,.i .i64 n1,.i .i64 n2,.i .i64 n3,.i .i64 n4,.i .i64 n5,.i .i64 n6,.b tap,.l (.bool false) tg,.l (.bool false) code,.i .i64 n10,.i .i64 n11,.i .i64 n12]∧
 (N16 n0∧N16 n1∧N16 n2∧N16 n3∧N16 n4∧N16 n5∧N16 n6∧N16 n10∧I64 n11∧I64 n12)∧((tg.length:Int)≤2∧ ∀x∈tg,c9X x)∧(code.length:Int)≤32∧ ∀x∈code,c9Y x
theorem d8a:Snd pAb eAb d6p:=fun l y r hb h=>by
 unfold pAb at h;obtain⟨k,h1,h⟩:=Option.bind_eq_some_iff.1 h;obtain⟨n0,y0,b0,e0⟩:=a4G hb h1;have hb:=hb.of e0;obtain⟨e,h2,h⟩:=Option.bind_eq_some_iff.1 h;obtain⟨n1,y1,b1,e1⟩:=a4G hb h2;have hb:=hb.of e1;obtain⟨w,h3,h⟩:=Option.bind_eq_some_iff.1 h;obtain⟨n2,y2,b2,e2⟩:=a4G hb h3;have hb:=hb.of e2;obtain⟨m,h4,h⟩:=Option.bind_eq_some_iff.1 h;obtain⟨n3,n4,n5,n6,y3,⟨b3,b4,b5,b6⟩,e3⟩:=d1J hb h4;have hb:=(((hb.of e3).app).app).app;obtain⟨t,h5,h⟩:=Option.bind_eq_some_iff.1 h;obtain⟨nt,yt,bt,et⟩:=a4G hb h5;have hb:=hb.of et;split at h
 ·rename_i htp;obtain⟨g,h6,h⟩:=Option.bind_eq_some_iff.1 h;obtain⟨tg,yg,lg,og,eg⟩:=c1w c6J hb h6;have hb:=(hb.of eg).app;obtain⟨c,h7,h⟩:=Option.bind_eq_some_iff.1 h;obtain⟨cd,yc,lc,oc,ec⟩:=c1w d3u hb h7;have hb:=(hb.of ec).app;obtain⟨o,h8,h⟩:=Option.bind_eq_some_iff.1 h;obtain⟨n10,y10,b10,e10⟩:=a4G hb h8;have hb:=hb.of e10;obtain⟨a,h9,h⟩:=Option.bind_eq_some_iff.1 h;obtain⟨n11,y11,b11,e11⟩:=c1y hb h9;have hb:=hb.of e11;obtain⟨b,h10,h⟩:=Option.bind_eq_some_iff.1 h;obtain⟨n12,y12,b12,e12⟩:=c1y hb h10;cases h;rw[yt]at htp;simp only[List.getD_cons_zero,a0D]at htp;rw[y0,y1,y2,y3,yt,yg,yc,y10,y11,y12];refine⟨⟨n0,n1,n2,n3,n4,n5,n6,_,tg,cd,n10,n11,n12,rfl,⟨b0,b1,b2,b3,b4,b5,b6,b10,b11,b12⟩,⟨lg,og⟩,lc,oc⟩, ?_⟩
  have ht:c3c (decide (nt=1))=nt:=by
   have:=bt.1;unfold c3c
   by_cases h:nt=1
   ·simp[h]
   ·simp[h];omega
  show l=(a0U n0++(a0U n1++(a0U n2++(a0U n3++(a0U n4++(a0U n5++(a0U n6++(a0U (c3c (decide (nt=1)))++(a0U tg.length++(tg.flatMap d4P++(a0U cd.length++(cd.flatMap d1a++(a0U n10++(a0U (zig n11)++a0U (zig n12)))))))))))))))++_;rw[ht,e0,e1,e2,e3,et,eg,ec,e10,e11,e12];simp only[List.append_assoc]
 ·cases h
theorem d8c:Cpl pAb eAb d6p:=fun y r h=>by
 obtain⟨n0,n1,n2,n3,n4,n5,n6,tap,tg,code,n10,n11,n12,rfl,⟨b0,b1,b2,b3,b4,b5,b6,b10,b11,b12⟩,⟨lg,og⟩,lc,oc⟩:=h;show pAb ((a0U n0++(a0U n1++(a0U n2++(a0U n3++(a0U n4++(a0U n5++(a0U n6++(a0U (c3c tap)++(a0U tg.length++(tg.flatMap d4P++(a0U code.length++(code.flatMap d1a++(a0U n10++(a0U (zig n11)++a0U (zig n12)))))))))))))))++r)=_;have bt:N16 (c3c tap):=by cases tap<;>exact⟨by decide,by decide⟩
 have ht:c3c tap≤1:=by cases tap<;>decide
 have hd:decide (c3c tap=1)=tap:=by cases tap<;>decide
 simp only[pAb,List.append_assoc,a2n b0,a2n b1,a2n b2,d1K b3 b4 b5 b6,a2n bt,Option.bind_some,List.getD_cons_zero,a0D,if_pos ht,c1x d3L (by decide) lg og,c1x d3w (by decide) lc oc,a2n b10,c1z b11,c1z b12,hd];rfl
def eCd(y:List G):List Int:=
 a0U (y.getD 0 .d).str.size++(numsOf (y.getD 0 .d).str++(a0U (y.getD 1 .d).int++(a0U (y.getD 2 .d).int++(a0U (y.getD 3 .d).int++(a0U (y.getD 4 .d).int++(a0U (y.getD 5 .d).int++(a0U (y.getD 6 .d).int++(a0U (y.getD 7 .d).int++(a0U (y.getD 8 .d).int++(a0U (y.getD 9 .d).int++
 (a0U (y.getD 10 .d).es.length++(y.getD 10 .d).es.flatMap eAb)))))))))))
def c2D(y:List G):Prop:= ∃s n1 n2 n3 n4 n5 n6 n7 n8 n9 abs,y= [.s s,.i .i64 n1,.i .i64 n2,.i .i64 n3,.i .i64 n4,.i .i64 n5,.i .i64 n6,.i .i64 n7,.i .i64 n8,.i .i64 n9,.l (.bool false) abs]∧
 (s.size:Int)<18446744073709551616∧(N16 n1∧N16 n2∧N16 n3∧N16 n4∧N16 n5∧N16 n6∧N16 n7∧N16 n8∧N16 n9)∧(abs.length:Int)≤4∧ ∀x∈abs,d6p x
theorem d7t:Snd pCd eCd c2D:=fun l y r hb h=>by unfold pCd at h;obtain⟨n,h1,h⟩:=Option.bind_eq_some_iff.1 h;obtain⟨s,y0,b0,e0⟩:=d6g hb h1;have hb:=(hb.of e0).app;obtain⟨k,h2,h⟩:=Option.bind_eq_some_iff.1 h;obtain⟨n1,y1,b1,e1⟩:=a4G hb h2;have hb:=hb.of e1;obtain⟨m,h3,h⟩:=Option.bind_eq_some_iff.1 h;obtain⟨n2,n3,n4,n5,y2,⟨b2,b3,b4,b5⟩,e2⟩:=d1J hb h3;have hb:=(((hb.of e2).app).app).app;obtain⟨c,h4,h⟩:=Option.bind_eq_some_iff.1 h;obtain⟨n6,y6,b6,e6⟩:=a4G hb h4;have hb:=hb.of e6;obtain⟨p,h5,h⟩:=Option.bind_eq_some_iff.1 h;obtain⟨n7,y7,b7,e7⟩:=a4G hb h5;have hb:=hb.of e7;obtain⟨t,h6,h⟩:=Option.bind_eq_some_iff.1 h;obtain⟨n8,y8,b8,e8⟩:=a4G hb h6;have hb:=hb.of e8;obtain⟨y',h7,h⟩:=Option.bind_eq_some_iff.1 h;obtain⟨n9,y9,b9,e9⟩:=a4G hb h7;have hb:=hb.of e9;obtain⟨a,h8,h⟩:=Option.bind_eq_some_iff.1 h;obtain⟨abs,ya,la,oa,ea⟩:=c1w d8a hb h8;cases h;rw[y0,y1,y2,y6,y7,y8,y9,ya];refine⟨⟨s,n1,n2,n3,n4,n5,n6,n7,n8,n9,abs,rfl,b0,⟨b1,b2,b3,b4,b5,b6,b7,b8,b9⟩,la,oa⟩, ?_⟩;show l=(a0U s.size++(numsOf s++(a0U n1++(a0U n2++(a0U n3++(a0U n4++(a0U n5++(a0U n6++(a0U n7++(a0U n8++(a0U n9++(a0U abs.length++abs.flatMap eAb))))))))))))++_;rw[e0,e1,e2,e6,e7,e8,e9,ea];simp only[List.append_assoc]
theorem d7v:Cpl pCd eCd c2D:=fun y r h=>by obtain⟨s,n1,n2,n3,n4,n5,n6,n7,n8,n9,abs,rfl,b0,⟨b1,b2,b3,b4,b5,b6,b7,b8,b9⟩,la,oa⟩:=h;show pCd ((a0U s.size++(numsOf s++(a0U n1++(a0U n2++(a0U n3++(a0U n4++(a0U n5++(a0U n6++(a0U n7++(a0U n8++(a0U n9++(a0U abs.length++abs.flatMap eAb))))))))))))++r)=_;simp only[pCd,List.append_assoc,d6i b0,a2n b1,d1K b2 b3 b4 b5,a2n b6,a2n b7,a2n b8,a2n b9,Option.bind_some,c1x d8c (by decide) la oa];rfl
theorem b2s(g:G):(er g).int=g.int:=by
 cases g with
 |w es=>show((erLL es).length:Int)=es.length;rw[a0k,List.length_map]
 |_=>rfl
theorem c7f(g:G):(er g).bool=g.bool:=by cases g<;>rfl
theorem d1Z(g:G):(er g).str=g.str:=by cases g<;>rfl
theorem a5i(es:List (List G)):(erLL es).length=es.length:=by rw[a0k,List.length_map]
theorem d2b(x:List G):c3Z (erL x)=c3Z x:=by
 simp only[c3Z,a4n,b2s,c7f,c4N,a0k,List.map_map]
 congr 1<;>(apply List.map_congr_left;intro y _;simp only[Function.comp_apply,d2a,a4n,b2s])
def core(D:Cx):Cx:=⟨D.name,D.kind,D.c0,D.c1,D.c2,D.c3,D.color,D.power,D.tough,D.keys,D.abs,none,0,0,0,fun _=>none,fun _=>0,fun _=>0,fun _=>0,fun _=>none,fun _=>0,fun _=>0,fun _=>0⟩
theorem d4Y(x:List G):core (b1k (erL x))=core (b1k x):=by
 simp only[core,b1k,a4n,b2s,d1Z,c4N,a0k,List.map_map]
 congr 1
 apply List.map_congr_left;intro y _;exact d2b y
theorem c5X(D:Cx)(n:Int):(core D).spec n=D.spec n:=rfl
theorem c0d(cs:List Cx)(b:Int):a4N (cs.map core) b=a4N cs b:=by unfold a4N;rw[List.getElem?_map];cases cs[b.toNat]? <;>rfl
theorem c8D(cs:List Cx)(D:Cx):c8c (cs.map core) (core D)=c8c cs D:=by
 unfold c8c;show D.abs.any _=_
 congr 1
 funext x
 unfold d8T
 congr 1
 funext y
 unfold d0c;rw[c0d]
theorem c9Z(cs:List Cx)(D:Cx):okD (cs.map core) (core D)=okD cs D:=by unfold okD;rw[c8D,List.length_map,c5X]
open Classical in
theorem c2r(cs:List Cx)(a a':Option Addr)(b c d b' c' d':Nat):PL.chk ⟨cs.map core,a,b,c,d⟩=PL.chk ⟨cs,a',b',c',d'⟩:=by
 have h1:(cs.map core).all (okD (cs.map core))=cs.all (okD cs):=by
  rw[List.all_map]
  congr 1
  funext D
  exact c9Z cs D
 have h2: ∀i,((⟨cs.map core,a,b,c,d⟩:PL).at i).name=((⟨cs,a',b',c',d'⟩:PL).at i).name:=by intro i;unfold PL.at;simp only[List.getD_eq_getElem?_getD,List.getElem?_map];cases cs[i]? <;>rfl
 have h3:(⟨cs.map core,a,b,c,d⟩:PL).dup=(⟨cs,a',b',c',d'⟩:PL).dup:=by unfold PL.dup;simp only[h2,List.length_map]
 unfold PL.chk;dsimp only;rw[List.length_map,h1];exact ite_congr rfl (fun _=>rfl) fun _=>ite_congr rfl (fun _=>rfl) fun _=>ite_congr rfl (fun _=>ite_congr h3 (fun _=>rfl) fun _=>rfl) fun _=>rfl
theorem d1e(es:List (List G)):a3y (erLL es)=a3y es:=by
 unfold a3y;rw[←c2r ((erLL es).map b1k) none none 0 0 0 0 0 0,←c2r (es.map b1k) none none 0 0 0 0 0 0,a0k,List.map_map,List.map_map,List.map_map]
 congr 2
 apply List.map_congr_left;intro x _;exact d4Y x
theorem d0P{es es':List (List G)}(h:erLL es=erLL es'):a3y es=a3y es':=by rw[←d1e es,h,d1e]
theorem d3S(s:ByteArray)(es:List (List G)):a5D s (erLL es)=a5D s es:=by unfold a5D;rw[a0k,List.foldl_map];simp only[a4n,b2s]
theorem d4Z(s:ByteArray)(es:List (List G)):a7i s (erLL es)=a7i s es:=by unfold a7i;rw[a0k,List.foldl_map];simp only[a4n,b2s]
theorem d8f(s:ByteArray)(g:List G):poolS.abB s (erL g)=poolS.abB s g:=by unfold poolS.abB abH;simp only[a4n,b2s,c7f,c4N,a5i,d3S,d4Z]
theorem d5H(s:ByteArray)(es:List (List G)):b6H s (erLL es)=b6H s es:=by unfold b6H;rw[a0k,List.foldl_map];simp only[d8f]
theorem d0X(s:ByteArray)(x:List G):b1F s (erL x)=b1F s x:=by unfold b1F a9f;simp only[a4n,b2s,d1Z,c4N,a5i,d5H]
theorem c7i(es:List (List G)):a7p (erLL es)=a7p es:=by unfold a7p a2I;rw[a5i,a0k,List.foldl_map];simp only[d0X]
theorem c9d{m:Int}(h:U64 m):Byt (a0U m):=by
 obtain⟨b,t,e1,b0,b1,_,_,ht,_⟩:=b2K h;rw[e1];intro c hc;rcases List.mem_cons.1 hc with rfl|hc
 ·exact⟨b0,b1⟩
 ·exact ht c hc
theorem b7M{m:Int}(h:U64 m):numsOf (c0O m)=a0U m:=b4z (c9d h)
theorem a0m{s:ByteArray}{n:Int}(h:U64 n):numsOf (pn s n)=numsOf s++a0U n:=by unfold pn;rw[wrap_u64 h.1 h.2,b1T,b7M h]
theorem b5A{s:ByteArray}{n:Int}(h:I64 n):numsOf (pz s n)=numsOf s++a0U (zig n):=by unfold pz;rw[b1T,b7M (d5e h)]
theorem b3v: ∀{es:List (List G)} {s:ByteArray},(∀x∈es,c9X x)→numsOf (a5D s es)=numsOf s++es.flatMap d4P
 | [],s,_=>by simp[a5D]
 |x::es,s,h=>by obtain⟨n,rfl,hn⟩:=h x List.mem_cons_self;show numsOf (a5D (pn s n) es)=_;rw[b3v fun y hy=>h y (List.mem_cons_of_mem _ hy),a0m hn.u,List.flatMap_cons,List.append_assoc];rfl
theorem b3w: ∀{es:List (List G)} {s:ByteArray},(∀x∈es,c9Y x)→numsOf (a7i s es)=numsOf s++es.flatMap d1a
 | [],s,_=>by simp[a7i]
 |x::es,s,h=>by obtain⟨a,b,c,rfl,h1,h2,h3⟩:=h x List.mem_cons_self;show numsOf (a7i (pz (pz (pn s a) b) c) es)=_;rw[b3w fun y hy=>h y (List.mem_cons_of_mem _ hy),b5A h3,b5A h2,a0m h1.u,List.flatMap_cons];show _=numsOf s++((a0U a++(a0U (zig b)++a0U (zig c)))++es.flatMap d1a);simp only[List.append_assoc]
theorem c9p{n:Nat}(h:(n:Int)<65536):U64 (n:Int):=⟨by omega,by omega⟩
theorem c9b{s:ByteArray}{y:List G}(h:d6p y):numsOf (poolS.abB s y)=numsOf s++eAb y:=by
 obtain⟨n0,n1,n2,n3,n4,n5,n6,tap,tg,code,n10,n11,n12,rfl,⟨b0,b1,b2,b3,b4,b5,b6,b10,b11,b12⟩,⟨lg,og⟩,lc,oc⟩:=h;have bt:U64 (c3c tap):=by cases tap<;>exact⟨by decide,by decide⟩
 show numsOf (pz (pz (pn (a7i (pn (a5D (pn (pn (pn (pn (pn (pn (pn (pn (pn s n0) n1) n2) n3) n4) n5) n6) (c3c tap)) tg.length) tg) code.length) code) n10) n11) n12)=numsOf s++(a0U n0++(a0U n1++(a0U n2++(a0U n3++(a0U n4++(a0U n5++(a0U n6++(a0U (c3c tap)++(a0U tg.length++(tg.flatMap d4P++(a0U code.length++(code.flatMap d1a++(a0U n10++(a0U (zig n11)++a0U (zig n12)))))))))))))));rw[b5A b12,b5A b11,a0m b10.u,b3w oc,a0m (c9p (by omega)),b3v og,a0m (c9p (by omega)),a0m bt,a0m b6.u,a0m b5.u,a0m b4.u,a0m b3.u,a0m b2.u,a0m b1.u,a0m b0.u];simp only[List.append_assoc]
theorem b7O: ∀{es:List (List G)} {s:ByteArray},(∀x∈es,d6p x)→numsOf (b6H s es)=numsOf s++es.flatMap eAb
 | [],s,_=>by simp[b6H]
 |x::es,s,h=>by show numsOf (b6H (poolS.abB s x) es)=_;rw[b7O fun y hy=>h y (List.mem_cons_of_mem _ hy),c9b (h x List.mem_cons_self),List.flatMap_cons,List.append_assoc]
theorem c3p{s:ByteArray}{y:List G}(h:c2D y):numsOf (b1F s y)=numsOf s++eCd y:=by obtain⟨t,n1,n2,n3,n4,n5,n6,n7,n8,n9,abs,rfl,b0,⟨b1,b2,b3,b4,b5,b6,b7,b8,b9⟩,la,oa⟩:=h;show numsOf (b6H (pn (pn (pn (pn (pn (pn (pn (pn (pn (pn (pn s t.size++t) n1) n2) n3) n4) n5) n6) n7) n8) n9) abs.length) abs)=numsOf s++(a0U t.size++(numsOf t++(a0U n1++(a0U n2++(a0U n3++(a0U n4++(a0U n5++(a0U n6++(a0U n7++(a0U n8++(a0U n9++(a0U abs.length++abs.flatMap eAb))))))))))));rw[b7O oa,a0m (c9p (by omega)),a0m b9.u,a0m b8.u,a0m b7.u,a0m b6.u,a0m b5.u,a0m b4.u,a0m b3.u,a0m b2.u,a0m b1.u,b1T,a0m ⟨by omega,b0⟩];simp only[List.append_assoc]
theorem b2J: ∀{es:List (List G)} {s:ByteArray},(∀x∈es,c2D x)→numsOf (a2I s es)=numsOf s++es.flatMap eCd
 | [],s,_=>by simp[a2I]
 |x::es,s,h=>by show numsOf (a2I (b1F s x) es)=_;rw[b2J fun y hy=>h y (List.mem_cons_of_mem _ hy),c3p (h x List.mem_cons_self),List.flatMap_cons,List.append_assoc]
theorem b2I{es:List (List G)}(hl:(es.length:Int)≤40)(h: ∀x∈es,c2D x):numsOf (a7p es)=a0U es.length++es.flatMap eCd:=by unfold a7p;rw[b2J h,a0m (c9p (by omega)),show numsOf ⟨#[]⟩= []from rfl,List.nil_append]
theorem c3B(s:ByteArray):Byt (numsOf s):=fun c hc=>b7N hc
theorem c5m{s:ByteArray}{es:List (List G)}{r:List Int}(h:pL 40 pCd (numsOf s)=some ([.l (.bool false) es],r)):(es.length:Int)≤40∧(∀x∈es,c2D x)∧numsOf s=numsOf (a7p es)++r:=by
 obtain⟨es',e1,h1,h2,h3⟩:=c1w d7t (c3B s) h;obtain rfl:es=es':=by simpa using e1
 exact⟨h1,h2,by rw[b2I h1 h2,List.append_assoc];exact h3⟩
theorem b3i{es:List (List G)}{r:List Int}(hl:(es.length:Int)≤40)(h: ∀x∈es,c2D x):pL 40 pCd (numsOf (a7p es)++r)=some ([.l (.bool false) es],r):=by rw[b2I hl h,List.append_assoc];exact c1x d7v (by decide) hl h
end
end Go.Proofs.Ytmmmknhdigapkaa.poolCut
