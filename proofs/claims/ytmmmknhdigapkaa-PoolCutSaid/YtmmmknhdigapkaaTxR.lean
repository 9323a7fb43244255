/-
  The laws PoolBack and PoolCut, same, alike: their trees; contracts.
-/
import Derived.Test.YtmmmknhdigapkaaTxQ
import Derived.Test.YtmmmknhdigapkaaTxP
import Derived.Test.YtmmmknhdigapkaaTxH
namespace Go.Proofs.Ytmmmknhdigapkaa.poolCut
open Go.Ev Go.RowKit Go.Proofs.Ytmmmknhdigapkaa.poolS Go.Proofs.Ytmmmknhdigapkaa.plq
set_option linter.unusedVariables false
noncomputable section
def e2M:Vt:=(.eql (vI 0) (vI 13)
(.eql (vI 1) (vI 14)
(.eql (vI 2) (vI 15)
(.eql (vI 3) (vI 16)
(.eql (vI 4) (vI 17)
(.eql (vI 5) (vI 18)
(.eql (vI 6) (vI 19)
(.fb 7
(.fb 20
(.eql (vI 10) (vI 23)
(.eql (vI 11) (vI 24)
(.eql (vI 12) (vI 25)
(.len (.sym 8)
(.len (.sym 21)
(.eql (vI 26) (vI 27)
(.len (.sym 9)
(.len (.sym 22)
(.eql (vI 28) (vI 29)
(.goto 0 [(some 0),(some 1)] [(gI 0),(gI 1),(gI 2),(gI 3),(gI 4),(gI 5),(gI 6),(gY 8),(gY 9),(gI 10),(gI 11),(gI 12),(gI 13),(gI 14),(gI 15),(gI 16),(gI 17),(gI 18),(gI 19),(gY 21),(gY 22),(gI 23),(gI 24),(gI 25),(.v (.bool true)),(.v (.bool true)),(.v (.int .i64 (0)))])
(.ret [(.v (.bool false))]))))
(.ret [(.v (.bool false))]))))
(.ret [(.v (.bool false))]))
(.ret [(.v (.bool false))]))
(.ret [(.v (.bool false))]))
(.ret [(.v (.bool false))]))
(.fb 20
(.ret [(.v (.bool false))])
(.eql (vI 10) (vI 23)
(.eql (vI 11) (vI 24)
(.eql (vI 12) (vI 25)
(.len (.sym 8)
(.len (.sym 21)
(.eql (vI 26) (vI 27)
(.len (.sym 9)
(.len (.sym 22)
(.eql (vI 28) (vI 29)
(.goto 0 [(some 0),(some 1)] [(gI 0),(gI 1),(gI 2),(gI 3),(gI 4),(gI 5),(gI 6),(gY 8),(gY 9),(gI 10),(gI 11),(gI 12),(gI 13),(gI 14),(gI 15),(gI 16),(gI 17),(gI 18),(gI 19),(gY 21),(gY 22),(gI 23),(gI 24),(gI 25),(.v (.bool false)),(.v (.bool false)),(.v (.int .i64 (0)))])
(.ret [(.v (.bool false))]))))
(.ret [(.v (.bool false))]))))
(.ret [(.v (.bool false))]))
(.ret [(.v (.bool false))]))
(.ret [(.v (.bool false))]))))
(.ret [(.v (.bool false))]))
(.ret [(.v (.bool false))]))
(.ret [(.v (.bool false))]))
(.ret [(.v (.bool false))]))
(.ret [(.v (.bool false))]))
(.ret [(.v (.bool false))]))
(.ret [(.v (.bool false))]))
def e2K:Sig:=⟨[tI,tI,tI,tI,tI,tI,tI,(.l b6D),(.l b4m),tI,tI,tI,tI,tI,tI,tI,tI,tI,tI,(.l b6D),(.l b4m),tI,tI,tI,.b,.b,tI],[(2,(.p 0 0)),(3,(.p 1 0)),(5,(.d 26))],[(.cells [(.d 0),(.d 1),(.d 2),(.d 3),(.d 4),(.d 5),(.d 6),(.d 24),(.d 7),(.d 8),(.d 9),(.d 10),(.d 11)] none 0 none),(.cells [(.d 12),(.d 13),(.d 14),(.d 15),(.d 16),(.d 17),(.d 18),(.d 25),(.d 19),(.d 20),(.d 21),(.d 22),(.d 23)] none 0 none)]⟩
def d5F:Vt:=(.len (.sym 7)
(.lss (vI 26) (vI 27)
(.elt (.sym 7) (vI 26) b6D
(.elt (.sym 19) (vI 26) b6D
(.eql (vI 28) (vI 29)
(.bin .add .i64 (vI 26) (.int .i64 (1))
(.goto 0 [(some 0),(some 1)] [(gI 0),(gI 1),(gI 2),(gI 3),(gI 4),(gI 5),(gI 6),(gY 7),(gY 8),(gI 9),(gI 10),(gI 11),(gI 12),(gI 13),(gI 14),(gI 15),(gI 16),(gI 17),(gI 18),(gY 19),(gY 20),(gI 21),(gI 22),(gI 23),(gY 24),(gY 25),(gI 30)]))
(.ret [(.v (.bool false))]))))
(.goto 1 [(some 0),(some 1)] [(gI 0),(gI 1),(gI 2),(gI 3),(gI 4),(gI 5),(gI 6),(gY 24),(gY 7),(gY 8),(gI 9),(gI 10),(gI 11),(gI 12),(gI 13),(gI 14),(gI 15),(gI 16),(gI 17),(gI 18),(gY 25),(gY 19),(gY 20),(gI 21),(gI 22),(gI 23),(.v (.int .i64 (0)))])))
def e2J:Sig:=⟨[tI,tI,tI,tI,tI,tI,tI,.b,(.l b6D),(.l b4m),tI,tI,tI,tI,tI,tI,tI,tI,tI,tI,.b,(.l b6D),(.l b4m),tI,tI,tI,tI],[(2,(.p 0 0)),(3,(.p 1 0)),(6,(.d 26))],[(.cells [(.d 0),(.d 1),(.d 2),(.d 3),(.d 4),(.d 5),(.d 6),(.d 7),(.d 8),(.d 9),(.d 10),(.d 11),(.d 12)] none 0 none),(.cells [(.d 13),(.d 14),(.d 15),(.d 16),(.d 17),(.d 18),(.d 19),(.d 20),(.d 21),(.d 22),(.d 23),(.d 24),(.d 25)] none 0 none)]⟩
def d5E:Vt:=(.len (.sym 9)
(.lss (vI 26) (vI 27)
(.elt (.sym 9) (vI 26) b4m
(.elt (.sym 22) (vI 26) b4m
(.eql (vI 28) (vI 31)
(.eql (vI 29) (vI 32)
(.eql (vI 30) (vI 33)
(.bin .add .i64 (vI 26) (.int .i64 (1))
(.goto 1 [(some 0),(some 1)] [(gI 0),(gI 1),(gI 2),(gI 3),(gI 4),(gI 5),(gI 6),(gY 7),(gY 8),(gY 9),(gI 10),(gI 11),(gI 12),(gI 13),(gI 14),(gI 15),(gI 16),(gI 17),(gI 18),(gI 19),(gY 20),(gY 21),(gY 22),(gI 23),(gI 24),(gI 25),(gI 34)]))
(.ret [(.v (.bool false))]))
(.ret [(.v (.bool false))]))
(.ret [(.v (.bool false))]))))
(.ret [(.v (.bool true))])))
def al:FnV:=⟨[(.st a5B),(.st a5B)],[(.d .b)],[0,1],[],e2M,[(0,e2K,d5F),(1,e2J,d5E)],[]⟩
def e0f:Vt:=(.len (.sym 0)
(.len (.sym 1)
(.eql (vI 2) (vI 3)
(.goto 0 [] [(gY 0),(gY 1),(.v (.int .i64 (0)))])
(.ret [(.v (.bool false))]))))
def e0d:Sig:=⟨[(.l a1T),(.l a1T),tI],[(0,(.d 0)),(1,(.d 1)),(5,(.d 2))],[]⟩
def d2l:Vt:=(.len (.sym 0)
(.lss (vI 2) (vI 3)
(.elt (.sym 0) (vI 2) a1T
(.elt (.sym 1) (vI 2) a1T
(.eqs (.sym 4) (.sym 15)
(.eql (vI 5) (vI 16)
(.eql (vI 6) (vI 17)
(.eql (vI 7) (vI 18)
(.eql (vI 8) (vI 19)
(.eql (vI 9) (vI 20)
(.eql (vI 10) (vI 21)
(.eql (vI 11) (vI 22)
(.eql (vI 12) (vI 23)
(.eql (vI 13) (vI 24)
(.len (.sym 14)
(.len (.sym 25)
(.eql (vI 26) (vI 27)
(.goto 1 [(some 0),(some 1)] [(gY 0),(gY 1),(gY 4),(gI 5),(gI 6),(gI 7),(gI 8),(gI 9),(gI 10),(gI 11),(gI 12),(gI 13),(gY 14),(gY 15),(gI 16),(gI 17),(gI 18),(gI 19),(gI 20),(gI 21),(gI 22),(gI 23),(gI 24),(gY 25),(.v (.int .i64 (0))),(gI 2)])
(.ret [(.v (.bool false))]))))
(.ret [(.v (.bool false))]))
(.ret [(.v (.bool false))]))
(.ret [(.v (.bool false))]))
(.ret [(.v (.bool false))]))
(.ret [(.v (.bool false))]))
(.ret [(.v (.bool false))]))
(.ret [(.v (.bool false))]))
(.ret [(.v (.bool false))]))
(.ret [(.v (.bool false))]))
(.ret [(.v (.bool false))]))))
(.ret [(.v (.bool true))])))
def e0c:Sig:=⟨[(.l a1T),(.l a1T),.s,tI,tI,tI,tI,tI,tI,tI,tI,tI,(.l a5B),.s,tI,tI,tI,tI,tI,tI,tI,tI,tI,(.l a5B),tI,tI],[(0,(.d 0)),(1,(.d 1)),(5,(.d 25)),(6,(.p 0 0)),(7,(.p 1 0)),(8,(.d 24))],[(.cells [(.d 2),(.d 3),(.d 4),(.d 5),(.d 6),(.d 7),(.d 8),(.d 9),(.d 10),(.d 11),(.d 12)] none 0 (some 40)),(.cells [(.d 13),(.d 14),(.d 15),(.d 16),(.d 17),(.d 18),(.d 19),(.d 20),(.d 21),(.d 22),(.d 23)] none 0 (some 40))]⟩
def d2k:Vt:=(.len (.sym 12)
(.lss (vI 24) (vI 26)
(.elt (.sym 12) (vI 24) a5B
(.elt (.sym 23) (vI 24) a5B
(.call 13 [(vI 27),(vI 28),(vI 29),(vI 30),(vI 31),(vI 32),(vI 33),(.sym 34),(.sym 35),(.sym 36),(vI 37),(vI 38),(vI 39),(vI 40),(vI 41),(vI 42),(vI 43),(vI 44),(vI 45),(vI 46),(.sym 47),(.sym 48),(.sym 49),(vI 50),(vI 51),(vI 52)]
(.fb 53
(.bin .add .i64 (vI 24) (.int .i64 (1))
(.goto 1 [(some 0),(some 1)] [(gY 0),(gY 1),(gY 2),(gI 3),(gI 4),(gI 5),(gI 6),(gI 7),(gI 8),(gI 9),(gI 10),(gI 11),(gY 12),(gY 13),(gI 14),(gI 15),(gI 16),(gI 17),(gI 18),(gI 19),(gI 20),(gI 21),(gI 22),(gY 23),(gI 54),(gI 25)]))
(.ret [(.v (.bool false))])))))
(.bin .add .i64 (vI 25) (.int .i64 (1))
(.goto 0 [] [(gY 0),(gY 1),(gI 27)]))))
def sm:FnV:=⟨[(.d (.l a1T)),(.d (.l a1T))],[(.d .b)],[0,1],[],e0f,[(0,e0d,d2l),(1,e0c,d2k)],[]⟩
def d3F:Vt:=(.call 12 []
(.fb 3
(.goto 1003001 [] [(.v (.sint .u16 1)),(gY 2),(gY 0)])
(.ret [(.v (.bool false))])))
def b6z:Sig:=⟨[(.i .u16),.s,(.l a1T)],[(1,(.d 0)),(2,(.d 1)),(16,(.d 2))],[]⟩
def a5Y:Vt:=(.call 10 [(.sym 3)]
(.eql (vI 5) (.int .i64 (0))
(.slen (.sym 4)
(.bin .rem .i64 (vI 0) (vI 6)
(.sub (.sym 4) (.int .i64 (0)) (vI 7)
(.goto 1006007 [] [(gY 1),(gY 4),(gY 8)]))))
(.ret [(.v (.bool true))])))
def b7C:MdE:=⟨3,1,0,[(.sym 2)],b6z,a5Y⟩
def b6y:Sig:=⟨[.s,.s,.s],[(2,(.d 0)),(7,(.d 1)),(30,(.d 2))],[]⟩
def a5X:Vt:=(.eql (vI 4) (.int .i64 (4))
(.eqs (.sym 0) (.string ⟨#[]⟩)
(.ret [(.v (.bool true))])
(.slen (.sym 0)
(.mn .i64 (vI 5) (.int .i64 (100))
(.sub (.sym 0) (.int .i64 (0)) (vI 6)
(.cat (.sym 1) (.sym 7)
(.goto 1011007 [] [(gY 8)]))))))
(.ret [(.v (.bool false))]))
def b7B:MdE:=⟨6,7,1,[(.sym 2)],b6y,a5X⟩
def b6x:Sig:=⟨[.s],[(45,(.d 0))],[]⟩
def a5W:Vt:=(.eql (vI 2) (.int .i64 (4))
(.ret [(.v (.bool true))])
(.ret [(.v (.bool false))]))
def b7A:MdE:=⟨11,7,1,[(.sym 0)],b6x,a5W⟩
def pcu:FnV:=⟨[(.d (.l a1T)),(.d (.i .u16)),(.d .s)],[(.d .b)],[],[(3,1),(6,7),(11,7)],d3F,[],[(1003001,b7C),(1006007,b7B),(1011007,b7A)]⟩
def d8P:Ct:=⟨34,[.st a5B,.st a5B],[.d .b],fun gs=>erL (gs.take 13)=erL (gs.drop 13),fun _=>[.b true]⟩
def e2E:Ct:=⟨14,[.d (.l a1T),.d (.l a1T)],[.d .b],fun gs=>erLL (gs.getD 0 .d).es=erLL (gs.getD 1 .d).es∧a9t (gs.getD 0 .d).es,fun _=>[.b true]⟩
def C14:List Ct:=C13++ [d8P]
def C15:List Ct:=[b8y 35,cNo,b9h 54,cNo,a7B 17,cNo,cAb 19,cNo,d4u 10,cNo,d8N 8,cNo,e3Q,d8P,e2E]
def e2G:Cf:=⟨13,[.d .s],[.d (.l a1T),.d (.i .i64)],fun _=>True,fun gs us=>c4m (gs.getD 0 .d).str us⟩
theorem e2L:b5t Try.prog (Cs []) (Ds []) Try.f34 al=true:=by kernel_rfl
theorem e0e:b5t Try.prog (Cs C14) (Ds []) Try.f14 sm=true:=by kernel_rfl
theorem d4t:CfOK Try.prog e2G:=by
 refine⟨fun t ht=> ?_,fun w gs L hL ht hm _=> ?_⟩
 ·have ht:t∈ [Ty.l a1T,.i .i64]:=ht;simp only[List.mem_cons,List.not_mem_nil,or_false]at ht;rcases ht with rfl|rfl<;>rfl
 ·obtain⟨g,l,rfl,t,h0⟩:=tyC (show TyL [.s] gs from ht);obtain⟨s,rfl,hs⟩:=tyS t;obtain rfl:=tyN h0;exact a2q w s (by omega) L hL
theorem d0y: ∀{a b:List Ty} {x:List G},TyL (a++b) x→ ∃y z,x=y++z∧TyL a y∧TyL b z
 | [],b,x,h=>⟨[],x,rfl,trivial,h⟩
 |t::a,b,[],h=>by have h:TyL (t::(a++b)) []:=h;simp only[TyL]at h
 |t::a,b,g::x,h=>by have h:TyL (t::(a++b)) (g::x):=h;simp only[TyL]at h;obtain⟨y,z,rfl,h1,h2⟩:=d0y h.2;exact⟨g::y,z,rfl,by simp only[TyL];exact⟨h.1,h1⟩,h2⟩
theorem b5m: ∀{es:List (List G)},TyLL b6D es→erLL es=es
 | [],_=>rfl
 |x::es,h=>by simp only[TyLL]at h;obtain⟨n,rfl,_⟩:=b7J h.1;show [G.i .i64 n]::erLL es=_;rw[b5m h.2]
theorem b5n: ∀{es:List (List G)},TyLL b4m es→erLL es=es
 | [],_=>rfl
 |x::es,h=>by simp only[TyLL]at h;obtain⟨a,b,c,rfl,_⟩:=b7x h.1;show [G.i .i64 a,.i .i64 b,.i .i64 c]::erLL es=_;rw[b5n h.2]
theorem c8G{x y:List G}(hx:TyL a5B x)(hy:TyL a5B y)(h:erL x=erL y): ∃n0 n1 n2 n3 n4 n5 n6 n10 n11 n12 tap tv cv tv' cv' tg code,x=abL n0 n1 n2 n3 n4 n5 n6 n10 n11 n12 tap tv cv tg code∧y=abL n0 n1 n2 n3 n4 n5 n6 n10 n11 n12 tap tv' cv' tg code∧TyLL b6D tg∧tg.length≤9223372036854775807∧TyLL b4m code∧code.length≤9223372036854775807:=by obtain⟨n0,n1,n2,n3,n4,n5,n6,n10,n11,n12,tap,tv,cv,tg,code,rfl,_,_,_,_,_,_,_,_,_,_,e1,e2,e3,e4⟩:=b0t hx;obtain⟨m0,m1,m2,m3,m4,m5,m6,m10,m11,m12,tap',tv',cv',tg',code',rfl,_,_,_,_,_,_,_,_,_,_,f1,f2,f3,f4⟩:=b0t hy;have h:[G.i .i64 n0,.i .i64 n1,.i .i64 n2,.i .i64 n3,.i .i64 n4,.i .i64 n5,.i .i64 n6,.b tap,.l (.bool false) (erLL tg),.l (.bool false) (erLL code),.i .i64 n10,.i .i64 n11,.i .i64 n12]= [.i .i64 m0,.i .i64 m1,.i .i64 m2,.i .i64 m3,.i .i64 m4,.i .i64 m5,.i .i64 m6,.b tap',.l (.bool false) (erLL tg'),.l (.bool false) (erLL code'),.i .i64 m10,.i .i64 m11,.i .i64 m12]:=h;rw[b5m e1,b5m f1,b5n e3,b5n f3]at h;simp only[List.cons.injEq,G.i.injEq,G.b.injEq,G.l.injEq,true_and,and_true]at h;obtain⟨rfl,rfl,rfl,rfl,rfl,rfl,rfl,rfl,rfl,rfl,rfl,rfl,rfl⟩:=h;exact⟨n0,n1,n2,n3,n4,n5,n6,n10,n11,n12,tap,tv,cv,tv',cv',tg,code,rfl,rfl,e1,e2,e3,e4⟩
theorem c7u{x y:List G}(hx:TyL a1T x)(hy:TyL a1T y)(h:erL x=erL y): ∃s n1 n2 n3 n4 n5 n6 n7 n8 n9 u u' es es',x=cdL s n1 n2 n3 n4 n5 n6 n7 n8 n9 u es∧y=cdL s n1 n2 n3 n4 n5 n6 n7 n8 n9 u' es'∧TyLL a5B es∧TyLL a5B es'∧erLL es=erLL es':=by obtain⟨s,n1,n2,n3,n4,n5,n6,n7,n8,n9,u,es,rfl,_,_,_,_,_,_,_,_,_,_,e1,e2⟩:=b2x hx;obtain⟨s',m1,m2,m3,m4,m5,m6,m7,m8,m9,u',es',rfl,_,_,_,_,_,_,_,_,_,_,f1,f2⟩:=b2x hy;have h:[G.s s,.i .i64 n1,.i .i64 n2,.i .i64 n3,.i .i64 n4,.i .i64 n5,.i .i64 n6,.i .i64 n7,.i .i64 n8,.i .i64 n9,.l (.bool false) (erLL es)]= [.s s',.i .i64 m1,.i .i64 m2,.i .i64 m3,.i .i64 m4,.i .i64 m5,.i .i64 m6,.i .i64 m7,.i .i64 m8,.i .i64 m9,.l (.bool false) (erLL es')]:=h;simp only[List.cons.injEq,G.s.injEq,G.i.injEq,G.l.injEq,true_and,and_true]at h;obtain⟨rfl,rfl,rfl,rfl,rfl,rfl,rfl,rfl,rfl,rfl,hh⟩:=h;exact⟨s,n1,n2,n3,n4,n5,n6,n7,n8,n9,u,u',es,es',rfl,rfl,e1,f1,hh⟩
def e3S(n0 n1 n2 n3 n4 n5 n6 n10 n11 n12:Int)(tap:Bool)(tv cv tv' cv':Value)(tg code:List (List G))(i:Int):List G:=
 [.i .i64 n0,.i .i64 n1,.i .i64 n2,.i .i64 n3,.i .i64 n4,.i .i64 n5,.i .i64 n6,.l tv tg,.l cv code,.i .i64 n10,.i .i64 n11,.i .i64 n12,.i .i64 n0,.i .i64 n1,.i .i64 n2,.i .i64 n3,.i .i64 n4,.i .i64 n5,.i .i64 n6,.l tv' tg,.l cv' code,.i .i64 n10,.i .i64 n11,.i .i64 n12,.b tap,.b tap,.i .i64 i]
def e3R(n0 n1 n2 n3 n4 n5 n6 n10 n11 n12:Int)(tap:Bool)(tv cv tv' cv':Value)(tg code:List (List G))(i:Int):List G:=
 [.i .i64 n0,.i .i64 n1,.i .i64 n2,.i .i64 n3,.i .i64 n4,.i .i64 n5,.i .i64 n6,.b tap,.l tv tg,.l cv code,.i .i64 n10,.i .i64 n11,.i .i64 n12,.i .i64 n0,.i .i64 n1,.i .i64 n2,.i .i64 n3,.i .i64 n4,.i .i64 n5,.i .i64 n6,.b tap,.l tv' tg,.l cv' code,.i .i64 n10,.i .i64 n11,.i .i64 n12,.i .i64 i]
theorem wrapN{i n:Nat}(h:i<n)(hn:n≤9223372036854775807):IntKind.i64.wrap ((i:Int)+1)=((i+1:Nat):Int):=by rw[b1f (by omega) (by omega)];rfl
theorem b0U{v:Value}{es:List (List G)}{i n:Nat}{x:List G}(h:es[i]? =some x)(hn:a0z n x=x):a0z n (b9g (.l v es) (i:Int))=x:=by rw[a2Q,Int.toNat_natCast,getD_of h,hn]
theorem c1P{w:World}{L:List Nat}{n0 n1 n2 n3 n4 n5 n6 n10 n11 n12:Int}{tap:Bool}{tv cv tv' cv':Value}{tg code:List (List G)}(t1:TyLL b6D tg)(l1:tg.length≤9223372036854775807)(t2:TyLL b4m code)(l2:code.length≤9223372036854775807)(hL: ∀b∈L,b<w.heap.size)
  (ht:TyL (a0F al.psh) (abL n0 n1 n2 n3 n4 n5 n6 n10 n11 n12 tap tv cv tg code++abL n0 n1 n2 n3 n4 n5 n6 n10 n11 n12 tap tv' cv' tg code)) (hm:GML (a0W w L) (abL n0 n1 n2 n3 n4 n5 n6 n10 n11 n12 tap tv cv tg code++abL n0 n1 n2 n3 n4 n5 n6 n10 n11 n12 tap tv' cv' tg code)):
  Calls Try.prog 34 ⟨a3e al.psh (abL n0 n1 n2 n3 n4 n5 n6 n10 n11 n12 tap tv cv tg code++abL n0 n1 n2 n3 n4 n5 n6 n10 n11 n12 tap tv' cv' tg code)⟩ w fun e w'=> ∃gs,gs= [.b true]∧e= .returned (a8w al.rs gs)∧TyL (a0F al.rs) gs∧GML (a0W w' L) gs∧Below w.heap.size w w':=by
 refine a3n hng plq.mixed (a8u c4k) (b9c (by intro c hc;cases hc)) Try.func34 e2L
  (fun t σ=>(t=0∧ ∃i:Nat,i≤tg.length∧σ=e3S n0 n1 n2 n3 n4 n5 n6 n10 n11 n12 tap tv cv tv' cv' tg code i)∨(t=1∧ ∃i:Nat,i≤code.length∧σ=e3R n0 n1 n2 n3 n4 n5 n6 n10 n11 n12 tap tv cv tv' cv' tg code i))
  (fun t σ=>if t=0 then code.length+2+(tg.length-(σ.getD 26 .d).int.toNat)else code.length-(σ.getD 26 .d).int.toNat) (fun gs=>gs= [.b true]) ?_ ?_ ?_ ?_ ?_ hL ht hm
 ·show wp _ e2M _ _;unfold e2M
  iterate 7 refine a0r (fun _=> ?_) fun h=>(h rfl).elim
  refine a3d (fun h=>a3d (fun h'=> ?_) fun h'=> ?_) fun h=>a3d (fun h'=> ?_) fun h'=> ?_
  ·have h:tap=true:=h;subst h
   iterate 3 refine a0r (fun _=> ?_) fun h=>(h rfl).elim
   refine a1Z (a1Z (a0r (fun _=>a1Z (a1Z (a0r (fun _=>a0C ?_) fun h=>(h rfl).elim))) fun h=>(h rfl).elim));exact .inl ⟨rfl,0,Nat.zero_le _,rfl⟩
  ·have h:tap=true:=h;have h':tap=false:=h';rw[h]at h';cases h'
  ·have h:tap=false:=h;have h':tap=true:=h';rw[h]at h';cases h'
  ·have h:tap=false:=h;subst h
   iterate 3 refine a0r (fun _=> ?_) fun h=>(h rfl).elim
   refine a1Z (a1Z (a0r (fun _=>a1Z (a1Z (a0r (fun _=>a0C ?_) fun h=>(h rfl).elim))) fun h=>(h rfl).elim));exact .inl ⟨rfl,0,Nat.zero_le _,rfl⟩
 ·intro q hq σ _;simp only[al,List.mem_cons,List.not_mem_nil,or_false]at hq;rcases hq with rfl|rfl<;>exact bd0 rfl
 ·intro q hq;cases hq
 ·simp only[al,List.mem_cons,List.not_mem_nil,or_false];rintro q (rfl|rfl) σ hty (⟨h0,i,hi,rfl⟩|⟨h0,i,hi,rfl⟩)
  ·show wp _ d5F _ _;unfold d5F e3S;refine a1Z (a0w (fun h=> ?_) fun h=>a0C ?_)
   ·have h:(i:Int)<tg.length:=h;have hi':i<tg.length:=by omega
    have hx:=List.getElem?_eq_getElem hi';obtain⟨z,hz,_⟩:=b7J (TyLL.at t1 hx);rw[hz]at hx;refine a3z (by show(0:Int)≤i;omega) h (a3z (by show(0:Int)≤i;omega) h ?_);show wp _ _ ((_++a0z 1 (b9g (.l tv tg) (i:Int)))++a0z 1 (b9g (.l tv' tg) (i:Int))) _;rw[b0U hx rfl,b0U hx rfl];refine a0r (fun _=>a1F (a0C ?_)) fun h=>(h rfl).elim;refine⟨.inl ⟨rfl,i+1,hi', ?_⟩, ?_⟩
    ·rw[←wrapN hi' l1];rfl
    ·show code.length+2+(tg.length-(IntKind.i64.wrap ((i:Int)+1)).toNat)<code.length+2+(tg.length-(i:Int).toNat);rw[wrapN hi' l1];omega
   ·refine⟨.inr ⟨rfl,0,Nat.zero_le _,rfl⟩, ?_⟩;show code.length-(0:Int).toNat<code.length+2+_;omega
  ·cases h0
  ·cases h0
  ·show wp _ d5E _ _;unfold d5E e3R;refine a1Z (a0w (fun h=> ?_) fun h=>a0c ?_)
   ·have h:(i:Int)<code.length:=h;have hi':i<code.length:=by omega
    have hx:=List.getElem?_eq_getElem hi';obtain⟨a,b,c,hz,_⟩:=b7x (TyLL.at t2 hx);rw[hz]at hx;refine a3z (by show(0:Int)≤i;omega) h (a3z (by show(0:Int)≤i;omega) h ?_);show wp _ _ ((_++a0z 3 (b9g (.l cv code) (i:Int)))++a0z 3 (b9g (.l cv' code) (i:Int))) _;rw[b0U hx rfl,b0U hx rfl];refine a0r (fun _=>a0r (fun _=>a0r (fun _=>a1F (a0C ?_)) fun h=>(h rfl).elim) fun h=>(h rfl).elim) fun h=>(h rfl).elim;refine⟨.inr ⟨rfl,i+1,hi', ?_⟩, ?_⟩
    ·rw[←wrapN hi' l2];rfl
    ·show code.length-(IntKind.i64.wrap ((i:Int)+1)).toNat<code.length-(i:Int).toNat;rw[wrapN hi' l2];omega
   ·rfl
 ·intro q hq;cases hq
theorem c8C:CtOK Try.prog d8P:=by refine⟨rfl,fun gs ht hp=>⟨trivial,trivial⟩,fun w gs ht hm hp=> ?_⟩;obtain⟨x,y',rfl,hx,hy'⟩:=d0y (show TyL (a5B++(a5B++ [])) gs from ht);rw[List.append_nil]at hy';have hp:erL ((x++y').take 13)=erL ((x++y').drop 13):=hp;have hl:x.length=13:=hx.len;rw[List.take_left' hl,List.drop_left' hl]at hp;obtain⟨n0,n1,n2,n3,n4,n5,n6,n10,n11,n12,tap,tv,cv,tv',cv',tg,code,rfl,rfl,a1,a2,a3,a4⟩:=c8G hx hy' hp;refine(c1P (L:=[]) a1 a2 a3 a4 (fun b hb=>by cases hb) ht hm).mono ?_;rintro e w' ⟨gs,rfl,he,_,_,hb⟩;exact⟨he,hb⟩
def e2q(v v':Value)(a b:List (List G))(s:ByteArray)(n1 n2 n3 n4 n5 n6 n7 n8 n9:Int)(u u':Value)(es es':List (List G))(k i:Int):List G:=
 [.l v a,.l v' b,.s s,.i .i64 n1,.i .i64 n2,.i .i64 n3,.i .i64 n4,.i .i64 n5,.i .i64 n6,.i .i64 n7,.i .i64 n8,.i .i64 n9,.l u es,.s s,.i .i64 n1,.i .i64 n2,.i .i64 n3,.i .i64 n4,.i .i64 n5,.i .i64 n6,.i .i64 n7,.i .i64 n8,.i .i64 n9,.l u' es',.i .i64 k,.i .i64 i]
theorem d7a{a b:List (List G)}(h:erLL a=erLL b){i:Nat}{x:List G}(hx:a[i]? =some x): ∃y,b[i]? =some y∧erL x=erL y:=by
 rw[a0k,a0k]at h;have:(b.map erL)[i]? =some (erL x):=by rw[←h,List.getElem?_map,hx];rfl
 rw[List.getElem?_map]at this;cases hb:b[i]? with
 |none=>rw[hb]at this;cases this
 |some y=>rw[hb]at this;exact⟨y,rfl,(Option.some.inj this).symm⟩
theorem c7e{a b:List (List G)}(h:erLL a=erLL b):a.length=b.length:=by rw[←a5i,h,a5i]
theorem d8s: ∀c∈C14,CtOK Try.prog c:=by
 intro c hc;rw[show C14=C13++ [d8P]from rfl,List.mem_append]at hc;rcases hc with hc|hc
 ·exact d8t c hc
 ·rw[List.mem_singleton.1 hc];exact c8C
theorem c3k{w:World}{L:List Nat}{v v':Value}{a b:List (List G)}(ha:TyLL a1T a)(hb:TyLL a1T b)(he:erLL a=erLL b)(l1:a.length≤42)(h5: ∀x∈a,(x.getD 10 .d).es.length≤5)(hL: ∀b∈L,b<w.heap.size)
  (ht:TyL (a0F sm.psh) [.l v a,.l v' b]) (hm:GML (a0W w L) [.l v a,.l v' b]):
  Calls Try.prog 14 ⟨a3e sm.psh [.l v a,.l v' b]⟩ w fun e w'=> ∃gs,gs= [.b true]∧e= .returned (a8w sm.rs gs)∧TyL (a0F sm.rs) gs∧GML (a0W w' L) gs∧Below w.heap.size w w':=by
 have hlen:=c7e he
 refine a3n hng plq.mixed (a8u d8s) (b9c (by intro c hc;cases hc)) Try.func14 e0e
  (fun t σ=>(t=0∧ ∃i:Nat,i≤a.length∧σ= [.l v a,.l v' b,.i .i64 i])∨(t=1∧ ∃i k:Nat,i<a.length∧ ∃s n1 n2 n3 n4 n5 n6 n7 n8 n9 u u' es es',es.length≤5∧k≤es.length∧TyLL a5B es∧TyLL a5B es'∧erLL es=erLL es'∧σ=e2q v v' a b s n1 n2 n3 n4 n5 n6 n7 n8 n9 u u' es es' k i))
  (fun t σ=>if t=0 then(a.length-(σ.getD 2 .d).int.toNat)*10+9 else(a.length-(σ.getD 25 .d).int.toNat)*10+((σ.getD 12 .d).es.length-(σ.getD 24 .d).int.toNat)) (fun gs=>gs= [.b true]) ?_ ?_ ?_ ?_ ?_ hL ht hm
 ·show wp _ e0f _ _;unfold e0f;refine a1Z (a1Z (a0r (fun _=>a0C ?_) fun h=> ?_))
  ·exact .inl ⟨rfl,0,Nat.zero_le _,rfl⟩
  ·have h:(a.length:Int)≠b.length:=h;exact absurd (by rw[hlen]) h
 ·intro q hq σ _;simp only[sm,List.mem_cons,List.not_mem_nil,or_false]at hq;rcases hq with rfl|rfl<;>exact bd0 rfl
 ·intro q hq;cases hq
 ·simp only[sm,List.mem_cons,List.not_mem_nil,or_false];rintro q (rfl|rfl) σ hty (⟨h0,i,hi,rfl⟩|⟨h0,i,k,hi,s,n1,n2,n3,n4,n5,n6,n7,n8,n9,u,u',es,es',k5,hk,t1,t2,hs,rfl⟩)
  ·show wp _ d2l _ _;unfold d2l;refine a1Z (a0w (fun h=> ?_) fun h=>a0c ?_)
   ·have h:(i:Int)<a.length:=h;have hi':i<a.length:=by omega
    have hx:=List.getElem?_eq_getElem hi';obtain⟨y,hy,hxy⟩:=d7a he hx;have h5x:=h5 _ (List.getElem_mem hi');obtain⟨s,n1,n2,n3,n4,n5,n6,n7,n8,n9,u,u',es,es',ex,rfl,t1,t2,hs⟩:=c7u (TyLL.at ha hx) (TyLL.at hb hy) hxy;rw[ex]at hx h5x;have h5x:es.length≤5:=h5x;refine a3z (by show(0:Int)≤i;omega) h (a3z (by show(0:Int)≤i;omega) (by show(i:Int)<b.length;omega) ?_);show wp _ _ ((_++a0z 11 (b9g (.l v a) (i:Int)))++a0z 11 (b9g (.l v' b) (i:Int))) _;rw[b0U hx rfl,b0U hy rfl];refine d0o (fun _=> ?_) fun h=>(h rfl).elim
    iterate 9 refine a0r (fun _=> ?_) fun h=>(h rfl).elim
    refine a1Z (a1Z (a0r (fun _=>a0C ?_) fun h=> ?_))
    ·refine⟨.inr ⟨rfl,i,0,hi',s,n1,n2,n3,n4,n5,n6,n7,n8,n9,u,u',es,es',h5x,Nat.zero_le _,t1,t2,hs,rfl⟩, ?_⟩;show(a.length-(i:Int).toNat)*10+(es.length-(0:Int).toNat)<(a.length-(i:Int).toNat)*10+9;omega
    ·have h:(es.length:Int)≠es'.length:=h;exact absurd (by rw[c7e hs]) h
   ·rfl
  ·cases h0
  ·cases h0
  ·show wp _ d2k _ _;unfold d2k e2q;refine a1Z (a0w (fun h=> ?_) fun h=> ?_)
   ·have h:(k:Int)<es.length:=h;have hk':k<es.length:=by omega
    have hx:=List.getElem?_eq_getElem hk';obtain⟨y,hy,hxy⟩:=d7a hs hx;obtain⟨m0,m1,m2,m3,m4,m5,m6,m10,m11,m12,tap,tv,cv,tv',cv',tg,code,ex,rfl,_⟩:=c8G (TyLL.at t1 hx) (TyLL.at t2 hy) hxy;rw[ex]at hx hxy;have:=c7e hs;refine a3z (by show(0:Int)≤k;omega) h (a3z (by show(0:Int)≤k;omega) (by show(k:Int)<es'.length;omega) ?_);show wp _ _ ((_++a0z 13 (b9g (.l u es) (k:Int)))++a0z 13 (b9g (.l u' es') (k:Int))) _;rw[b0U hx rfl,b0U hy rfl];refine a3Q hxy (a3d (fun _=>a1F (a0C ?_)) fun h=> ?_)
    ·refine⟨.inr ⟨rfl,i,k+1,hi,s,n1,n2,n3,n4,n5,n6,n7,n8,n9,u,u',es,es',k5,hk',t1,t2,hs, ?_⟩, ?_⟩
     ·rw[←wrapN hk' (by omega)];rfl
     ·show(a.length-(i:Int).toNat)*10+(es.length-(IntKind.i64.wrap ((k:Int)+1)).toNat)<(a.length-(i:Int).toNat)*10+(es.length-(k:Int).toNat);rw[wrapN hk' (by omega)];omega
    ·cases(show true=false from h)
   ·refine a1F (a0C ?_);refine⟨.inl ⟨rfl,i+1,hi, ?_⟩, ?_⟩
    ·rw[←wrapN hi (by omega)];rfl
    ·show(a.length-(IntKind.i64.wrap ((i:Int)+1)).toNat)*10+9<(a.length-(i:Int).toNat)*10+(es.length-(k:Int).toNat);rw[wrapN hi (by omega)];omega
 ·intro q hq;cases hq
theorem d4r:CtOK Try.prog e2E:=by refine⟨rfl,fun gs ht hp=>⟨trivial,trivial⟩,fun w gs ht hm hp=> ?_⟩;obtain⟨g,l,rfl,t,h0⟩:=tyC (show TyL [.l a1T,.l a1T] gs from ht);obtain⟨v,a,rfl,e1,e2⟩:=b3l t;obtain⟨g2,l2,rfl,t2,h00⟩:=tyC h0;obtain⟨v',b,rfl,f1,f2⟩:=b3l t2;obtain rfl:=tyN h00;obtain⟨h1,h2⟩:erLL a=erLL b∧a9t a:=hp;refine(c3k (L:=[]) e1 f1 h1 h2.1 (fun x hx=>(h2.2 x hx).1) (fun b hb=>by cases hb) ht hm).mono ?_;rintro e w' ⟨gs,rfl,he,_,_,hb⟩;exact⟨he,hb⟩
theorem d3P{x:List G}{w:World}(tx:TyL a1T x)(hs:(b1k x).Small):c2D (erL x):=by
 have tx0:=tx;obtain⟨s,n1,n2,n3,n4,n5,n6,n7,n8,n9,v,es,rfl,hsz,_,_,_,_,_,_,_,_,_,e1,e2⟩:=b2x tx
 have nn: ∀z∈ [n1,n2,n3,n4,n5,n6,n7,n8,n9],N16 z:=fun z hz=>by have:=hs.nn z hz;exact⟨by omega,by omega⟩
 have al:es.length≤4:=by have:(es.map c3Z).length≤4:=hs.al;rw[List.length_map]at this;exact this
 refine⟨s,n1,n2,n3,n4,n5,n6,n7,n8,n9,erLL es,rfl,by omega,⟨nn _ (by simp),nn _ (by simp),nn _ (by simp),nn _ (by simp),nn _ (by simp),nn _ (by simp),nn _ (by simp),nn _ (by simp),nn _ (by simp)⟩,by rw[a5i];omega,fun y hy=> ?_⟩;rw[a0k]at hy;obtain⟨a,ha,rfl⟩:=List.mem_map.1 hy;have hA:(c3Z a).Small:=hs.ab _ (List.mem_map_of_mem ha);obtain⟨m0,m1,m2,m3,m4,m5,m6,m10,m11,m12,tap,tv,cv,tg,code,rfl,_,_,_,_,_,_,_,_,i11,i12,f1,f2,f3,f4⟩:=b0t (TyLL.mem e1 ha);rw[b6X]at hA
 have mm: ∀z∈ [m0,m1,m2,m3,m4,m5,m6,m10],N16 z:=fun z hz=>by have:=hA.nn z hz;exact⟨by omega,by omega⟩
 have tl:tg.length≤2:=by have:=hA.tl;simpa using this
 have cl:code.length≤32:=by have:=hA.cl;simpa using this
 refine⟨m0,m1,m2,m3,m4,m5,m6,tap,erLL tg,erLL code,m10,m11,m12,rfl,⟨mm _ (by simp),mm _ (by simp),mm _ (by simp),mm _ (by simp),mm _ (by simp),mm _ (by simp),mm _ (by simp),mm _ (by simp),i11,i12⟩,⟨by rw[a5i];omega,fun y hy=> ?_⟩,by rw[a5i];omega,fun y hy=> ?_⟩
 ·rw[b5m f1]at hy;obtain⟨n,rfl,_⟩:=b7J (TyLL.mem f1 hy);have:=hA.tg n (List.mem_map.2 ⟨_,hy,rfl⟩);exact⟨n,rfl,by omega,by omega⟩
 ·rw[b5n f3]at hy;obtain⟨a,b,c,rfl,i1,i2,i3⟩:=b7x (TyLL.mem f3 hy);have:=(hA.cd (a,b,c) (List.mem_map.2 ⟨_,hy,rfl⟩)).1;exact⟨a,b,c,rfl,⟨by omega,by omega⟩,i2,i3⟩
theorem d0O{es:List (List G)}(h:a3y es=0):es.length≤40∧ ∀x∈es,(b1k x).spec (es.length:Int)=0:=by
 unfold a3y PL.chk at h;split at h
 ·cases h
 ·split at h
  ·cases h
  ·rename_i h1 h2;split at h
   ·rename_i h3;simp only[List.length_map]at h2;refine⟨by omega,fun x hx=> ?_⟩;have:=List.all_eq_true.1 h3 _ (List.mem_map_of_mem hx);unfold okD at this;simp only[List.length_map,Bool.and_eq_true,decide_eq_true_eq]at this;exact this.1
   ·cases h
def okP(es:List (List G)):Prop:=smallP es∧(a3y es=0→(es.length:Int)≤40∧ ∀x∈erLL es,c2D x)
theorem d1N{w:World}{v:Value}{es:List (List G)}(ht:TyLL a1T es)(hm:GM w (.l v es))(hz:a3y es=0):(es.length:Int)≤40∧ ∀x∈erLL es,c2D x:=by obtain⟨h1,h2⟩:=d0O hz;refine⟨by omega,fun y hy=> ?_⟩;rw[a0k]at hy;obtain⟨x,hx,rfl⟩:=List.mem_map.1 hy;obtain⟨i,hi,rfl⟩:=List.getElem_of_mem hx;obtain⟨_,_,h3⟩:=a8L hm ht (List.getElem?_eq_getElem hi);have tx:=TyLL.mem ht hx;exact d3P (w:=w) tx (b3n (d7g tx h3.gml) (h2 _ hx)).1
theorem c9I(s:ByteArray):rest s 0=numsOf s:=rfl
theorem b1Y{es:List (List G)}(hl:(es.length:Int)≤40)(h: ∀x∈erLL es,c2D x)(r:List Int):pL 40 pCd (numsOf (a7p es)++r)=some ([.l (.bool false) (erLL es)],r):=by rw[←c7i];exact b3i (by rw[a5i];exact hl) h
theorem d4T{es:List (List G)}(hl:(es.length:Int)≤40)(h: ∀x∈erLL es,c2D x)(hz:a3y es=0){us:List G}(hd:c4m (a7p es) us): ∃v m,us= [.l v m,.i .i64 0]∧erLL m=erLL es:=by
 have hr:=b1Y hl h [];rw[List.append_nil]at hr;rcases hd with⟨v,m,rfl,h1,_⟩|⟨_,h1|⟨m,r,h1,h2⟩⟩
 ·rw[c9I,hr]at h1;exact⟨v,m,rfl,by simpa using h1.symm⟩
 ·rw[c9I,hr]at h1;cases h1
 ·rw[c9I,hr]at h1;simp only[Option.some.injEq,Prod.mk.injEq,List.cons.injEq,G.l.injEq,true_and,and_true]at h1;obtain⟨h3,rfl⟩:=h1;rcases h2 with h2|h2
  ·exact absurd rfl h2
  ·rw[d0P h3.symm]at h2;exact absurd hz h2
theorem b5p{s:ByteArray}{us:List G}(h: ∀es,pL 40 pCd (numsOf s)≠some ([.l (.bool false) (erLL es)],[]))(hd:c4m s us):us= [.l (.slice none 0 0) [],.i .i64 4]:=by
 rcases hd with⟨v,m,rfl,h1,_⟩|⟨h1,_⟩
 ·exact absurd h1 (h m)
 ·exact h1
theorem d4L{es:List (List G)}(hl:(es.length:Int)≤40)(h: ∀x∈erLL es,c2D x):0<(a7p es).size:=by
 have e:=b2I (es:=erLL es) (by rw[a5i];exact hl) h;rw[c7i]at e;obtain⟨b,t,e1,_⟩:=b2K (m:=((erLL es).length:Int)) ⟨by omega,by rw[a5i];omega⟩;rw[←a4J,e,e1]
 simp
end
end Go.Proofs.Ytmmmknhdigapkaa.poolCut
