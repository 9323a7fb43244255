/-
  Bytes are read: what reading tells, as functions of the bytes; the code's trees; contracts.
-/
import Derived.Test.YtmmmknhdigapkaaTxI
import Derived.Test.YtmmmknhdigapkaaEvTr
namespace Go.Proofs.Ytmmmknhdigapkaa.poolCut
open Go.Ev Go.RowKit Go.Proofs.Ytmmmknhdigapkaa.poolS
set_option linter.unusedVariables false
noncomputable section
def a3u:List Ty:=[.s,tI,.b]
def e3o:List Ty:=[(.i .u64),.s,tI,.b]
def e3n:List Ty:=[(.i .u64),.s,tI,.b,.b]
def d2Z:List Ty:=[tI,.s,tI,.b]
def e3m:List Ty:=[tI,.b,.s,tI,.b]
def e3l:List Ty:=[.s,tI,.b,tI,tI,tI,tI,tI]
def e3k:List Ty:=[.s,tI,.b,tI,tI,tI,tI,tI,tI]
def e3j:List Ty:=[tI,tI,tI,tI]
def e2k:List Ty:=[tI,tI,.s,tI,.b]
def c8V:List Ty:=[tI,tI,tI]
def c8q:List Ty:=[tI,.s,tI,.b,.b]
def c8p:List Ty:=[.s,tI,.b,tI]
def b6W:List Ty:=[tI]
def e0V:List Ty:=[tI,.s,tI,.b,(.w b6W),.b,tI]
def e0U:List Ty:=[tI,.s,tI,.b,tI,(.w b6W),.b]
def e0T:List Ty:=[tI,.s,tI,.b,(.w c8V),.b,tI]
def e0S:List Ty:=[tI,.s,tI,.b,tI,(.w c8V),.b]
def e0R:List Ty:=[tI,tI,tI,.s,tI,.b]
def e0Q:List Ty:=[.s,tI,.b,tI,tI,tI,tI,tI,tI,tI]
def e0P:List Ty:=[tI,.s,tI,.b,tI,tI,tI,tI,tI,tI,tI,.b]
def e0O:List Ty:=[.s,tI,.b,tI,tI,tI,tI,tI,tI,tI,.b]
def e0N:List Ty:=[.s,tI,.b,tI,tI,tI,tI,tI,tI,tI,.b,(.l b6W)]
def e0M:List Ty:=[.s,tI,.b,tI,tI,tI,tI,tI,tI,tI,.b,(.l b6W),(.l c8V)]
def e0L:List Ty:=[tI,.s,tI,.b,tI,tI,tI,tI,tI,tI,tI,.b,(.l b6W),(.l c8V)]
def e0K:List Ty:=[tI,tI,.s,tI,.b,tI,tI,tI,tI,tI,tI,tI,.b,(.l b6W),(.l c8V)]
def b9q:List Ty:=[tI,tI,tI,tI,tI,tI,tI,.b,(.l b6W),(.l c8V),tI,tI,tI]
def e0J:List Ty:=[tI,.s,tI,.b,(.w b9q),.b,tI]
def e0I:List Ty:=[tI,.s,tI,.b,tI,(.w b9q),.b]
def d6G:List Ty:=[.s,tI,.b,.s]
def e0H:List Ty:=[.b,.s,tI,.b,.s]
def e0G:List Ty:=[tI,.s,tI,.b,.s]
def e0F:List Ty:=[.s,tI,.b,.s,tI,tI,tI,tI,tI]
def e0E:List Ty:=[tI,.s,tI,.b,.s,tI,tI,tI,tI,tI]
def e0D:List Ty:=[tI,tI,.s,tI,.b,.s,tI,tI,tI,tI,tI]
def e0C:List Ty:=[tI,tI,tI,.s,tI,.b,.s,tI,tI,tI,tI,tI]
def e0B:List Ty:=[.s,tI,.b,.s,tI,tI,tI,tI,tI,tI,tI,tI,tI]
def c3Y:List Ty:=[.s,tI,tI,tI,tI,tI,tI,tI,tI,tI,(.l b9q)]
def e0A:List Ty:=[tI,.s,tI,.b,(.w c3Y),.b,tI]
def d9z:List Ty:=[tI,.s,tI,.b,tI,(.w c3Y),.b]
def rest(s:ByteArray)(a:Int):List Int:=(numsOf s).drop a.toNat
structure At(s:ByteArray)(a:Int)(l:List Int):Prop where
 lo:0≤a
 hi:a≤s.size
 eq:rest s a=l
abbrev Pr:=List Int→Option (List G×List Int)
def pU(l:List Int):Option (Int×List Int):=match l with
 | []=>none
 |b::t=>if lead b≤t.length then(if 0<lead b∧a7o (a4b b) (t.take (lead b))<2^(7*lead b)then none else some (a7o (a4b b) (t.take (lead b)),t.drop (lead b)))else none
def a7w(n:Int):Int:=if n%2=0 then n/2 else -(n/2)-1
def pN:Pr:=fun l=>match pU l with
 |some (n,r)=>if n<65536 then some ([.i .i64 n],r)else none
 |none=>none
def pI:Pr:=fun l=>match pU l with
 |some (n,r)=>some ([.i .i64 (a7w n)],r)|none=>none
def pT:Pr:=fun l=>match pU l with
 |some (n,r)=>if n≤r.length then some ([.s (strOfNums (r.take n.toNat))],r.drop n.toNat)else none
 |none=>none
def a7F(p:Pr):Nat→List Int→Option (List (List G)×List Int)
 |0,l=>some ([],l)
 |n+1,l=>(p l).bind fun z=>(a7F p n z.2).bind fun y=>some (z.1::y.1,y.2)
def pL(most:Int)(p:Pr):Pr:=fun l=>(pN l).bind fun z=>if(z.1.getD 0 .d).int≤most then(a7F p (z.1.getD 0 .d).int.toNat z.2).bind fun y=>some ([.l (.bool false) y.1],y.2)else none
def pM:Pr:=fun l=>(a7F pN 4 l).map fun y=>(y.1.flatten,y.2)
def b4v:Pr:=fun l=>(pN l).bind fun x=>(pI x.2).bind fun y=>(pI y.2).bind fun z=>some (x.1++(y.1++z.1),z.2)
def pAb:Pr:=fun l=>(pN l).bind fun k=>(pN k.2).bind fun e=>(pN e.2).bind fun w=>(pM w.2).bind fun m=>(pN m.2).bind fun t=>if(t.1.getD 0 .d).int≤1 then(pL 2 pN t.2).bind fun g=>(pL 32 b4v g.2).bind fun c=>(pN c.2).bind fun o=>(pI o.2).bind fun a=>(pI a.2).bind fun b=>some (k.1++(e.1++(w.1++(m.1++(.b (decide ((t.1.getD 0 .d).int=1))::(g.1++(c.1++(o.1++(a.1++b.1)))))))),b.2)else none
def pCd:Pr:=fun l=>(pT l).bind fun n=>(pN n.2).bind fun k=>(pM k.2).bind fun m=>(pN m.2).bind fun c=>(pN c.2).bind fun p=>(pN p.2).bind fun t=>(pN t.2).bind fun y=>(pL 4 pAb y.2).bind fun a=>some (n.1++(k.1++(m.1++(c.1++(p.1++(t.1++(y.1++a.1)))))),a.2)
mutual
def er:G→G
 |.l _ es=>.l (.bool false) (erLL es)|.w es=>.w (erLL es)|g=>g
def erLL:List (List G)→List (List G)
 | []=>[]|x::es=>erL x::erLL es
def erL:List G→List G
 | []=>[]|g::x=>er g::erL x
end
def a0X:Value:=.iface 58 (.agg ⟨[]⟩)
def b3(k:Nat):BlS:=.cells [.d k,.d (k+1),.d (k+2)] none 0 none
def st3(s:ByteArray)(a:Int)(b:Bool):List G:=[.s s,.i .i64 a,.b b]
def b8x:Co:=⟨68,[.p 0 0],a3u,[b3 0],[.d (.i .u64)],a3u,[b3 1],fun σ=> ∃s a,σ=st3 s a false∧0≤a∧a≤s.size,
 fun σ us=> ∃s a,σ=st3 s a false∧((∃n r a',pU (rest s a)=some (n,r)∧us= .i .u64 n::st3 s a' false∧At s a' r)∨(pU (rest s a)=none∧us= .i .u64 0::st3 s s.size true)),fun _=>False,a0X⟩
def d4s:Co:=⟨82,[.p 0 0],a3u,[b3 0],[.d (.i .i64)],a3u,[b3 1],fun σ=> ∃s a,σ=st3 s a false∧0≤a∧a≤s.size,
 fun σ us=> ∃s a,σ=st3 s a false∧((∃n r a',pU (rest s a)=some (n,r)∧us= .i .i64 (a7w n)::st3 s a' false∧At s a' r)∨(pU (rest s a)=none∧us= .i .i64 0::st3 s s.size true)),fun _=>False,a0X⟩
def d4q:Co:=⟨47,[.p 0 0],a3u,[b3 0],[.d .s],a3u,[b3 1],fun σ=> ∃s a,σ=st3 s a false∧0≤a∧a≤s.size,
 fun σ us=> ∃s a,σ=st3 s a false∧((∃x r a',pT (rest s a)=some ([.s x],r)∧us= .s x::st3 s a' false∧At s a' r)∨(pT (rest s a)=none∧us= .s ⟨#[]⟩::st3 s s.size true)),fun _=>False,a0X⟩
def d8L:Co:=⟨48,[.p 0 0],a3u,[b3 0],[.d .b],a3u,[b3 1],fun σ=> ∃s a b,σ=st3 s a b,fun σ us=> ∃s a b,σ=st3 s a b∧us= .b (!b)::st3 s a b,fun _=>False,a0X⟩
def e2F:Co:=⟨32,[.p 0 0],a3u,[b3 0],[.d .b],a3u,[b3 1],fun σ=> ∃s a b,σ=st3 s a b,fun σ us=> ∃s a b,σ=st3 s a b∧us= .b (!b&&decide (a=s.size))::st3 s a b,fun _=>False,a0X⟩
def a5G:Co:=⟨31,[.d 0],[.b],[],[],[],[],fun _=>True,fun σ us=>σ= [.b true]∧us= [],fun σ=>σ= [.b false],a0X⟩
def coF(F:FnO)(f:FuncId)(xg:List G)(p:Pr):Co:=⟨f,F.ia,F.ty,F.bl,F.rs,F.oty,F.obl,fun σ=> ∃s a,σ=st3 s a false++xg∧0≤a∧a≤s.size,
 fun σ us=> ∃s a x y r a',σ=st3 s a false++xg∧us=x++st3 s a' false∧p (rest s a)=some (y,r)∧erL x=y∧TyL (a0F F.rs) x∧At s a' r,fun σ=> ∃s a,σ=st3 s a false++xg∧p (rest s a)=none,a0X⟩
def Dso(l:List Co):Nat→Co:=fun c=>l.getD c ⟨0,[],[],[],[],[],[],fun _=>False,fun _ _=>False,fun _=>False,.bool false⟩
theorem b4W{P:Program}{l:List Co}(h: ∀c∈l,CoOK P c)(c:Nat):CoOK P (Dso l c):=by
 unfold Dso;rw[List.getD_eq_getElem?_getD];rcases Nat.lt_or_ge c l.length with hc|hc
 ·rw[List.getElem?_eq_getElem hc];exact h _ (List.getElem_mem hc)
 ·rw[List.getElem?_eq_none hc];exact⟨fun _ _ _ _ _ _ _ _ _ _ h=>False.elim h⟩
theorem d3V:c9e Try.prog=true:=by kernel_rfl
theorem hng:a6U Try.prog:=b5C d3V
theorem mixed:Try.prog.follows .mixedOrders=true:=by kernel_rfl
def d9Z:Vt:=(.sidx (.string ⟨#[0,1,2,2,3,3,3,3,4,4,4,4,4,4,4,4,5,5,5,5,5,5,5,5,5,5,5,5,5,5,5,5,6,6,6,6,6,6,6,6,6,6,6,6,6,6,6,6,6,6,6,6,6,6,6,6,6,6,6,6,6,6,6,6,7,7,7,7,7,7,7,7,7,7,7,7,7,7,7,7,7,7,7,7,7,7,7,7,7,7,7,7,7,7,7,7,7,7,7,7,7,7,7,7,7,7,7,7,7,7,7,7,7,7,7,7,7,7,7,7,7,7,7,7,7,7,7,7,8,8,8,8,8,8,8,8,8,8,8,8,8,8,8,8,8,8,8,8,8,8,8,8,8,8,8,8,8,8,8,8,8,8,8,8,8,8,8,8,8,8,8,8,8,8,8,8,8,8,8,8,8,8,8,8,8,8,8,8,8,8,8,8,8,8,8,8,8,8,8,8,8,8,8,8,8,8,8,8,8,8,8,8,8,8,8,8,8,8,8,8,8,8,8,8,8,8,8,8,8,8,8,8,8,8,8,8,8,8,8,8,8,8,8,8,8,8,8,8,8,8,8,8,8,8,8,8]⟩) (.sint .u8 0)
(.bin .sub .i64 (.int .i64 (8)) (vI 1)
(.ret [(gI 2)])))
def lz:FnV:=⟨[(.d (.i .u8))],[(.d tI)],[],[],d9Z,[],[]⟩
def c4r:Vt:=(.slen (.sym 0)
(.lss (vI 1) (vI 3)
(.sidx (.sym 0) (vI 1)
(.un .xor .u8 (.sint .u8 4)
(.call 0 [(.sint .u8 5)]
(.bin .sub .i64 (vI 3) (vI 1)
(.lss (vI 6) (vI 7)
(.bin .shr .u8 (.int .u8 (255)) (vI 6)
(.bin .and .u8 (.sint .u8 4) (.sint .u8 8)
(.lss (vI 6) (.int .i64 (1))
(.lss (.int .i64 (0)) (vI 6)
(.bin .mul .i64 (.int .i64 (7)) (vI 6)
(.bin .shr .u64 (.sint .u64 9) (vI 10)
(.eql (.sint .u64 11) (.int .u64 (0))
(.ret [(.v (.int .u64 (0))),(gY 0),(gI 3),(.v (.bool true))])
(.bin .add .i64 (.int .i64 (1)) (vI 6)
(.bin .add .i64 (vI 1) (vI 12)
(.ret [(.v (.sint .u64 9)),(gY 0),(gI 13),(gY 2)]))))))
(.bin .add .i64 (.int .i64 (1)) (vI 6)
(.bin .add .i64 (vI 1) (vI 10)
(.ret [(.v (.sint .u64 9)),(gY 0),(gI 11),(gY 2)]))))
(.bin .shl .u64 (.sint .u64 9) (.int .u64 (8))
(.bin .add .i64 (vI 1) (.int .i64 (1))
(.sidx (.sym 0) (vI 11)
(.bin .or .u64 (.sint .u64 10) (.sint .u64 12)
(.lss (vI 6) (.int .i64 (2))
(.lss (.int .i64 (0)) (vI 6)
(.bin .mul .i64 (.int .i64 (7)) (vI 6)
(.bin .shr .u64 (.sint .u64 13) (vI 14)
(.eql (.sint .u64 15) (.int .u64 (0))
(.ret [(.v (.int .u64 (0))),(gY 0),(gI 3),(.v (.bool true))])
(.bin .add .i64 (.int .i64 (1)) (vI 6)
(.bin .add .i64 (vI 1) (vI 16)
(.ret [(.v (.sint .u64 13)),(gY 0),(gI 17),(gY 2)]))))))
(.bin .add .i64 (.int .i64 (1)) (vI 6)
(.bin .add .i64 (vI 1) (vI 14)
(.ret [(.v (.sint .u64 13)),(gY 0),(gI 15),(gY 2)]))))
(.bin .shl .u64 (.sint .u64 13) (.int .u64 (8))
(.bin .add .i64 (vI 1) (.int .i64 (2))
(.sidx (.sym 0) (vI 15)
(.bin .or .u64 (.sint .u64 14) (.sint .u64 16)
(.lss (vI 6) (.int .i64 (3))
(.lss (.int .i64 (0)) (vI 6)
(.bin .mul .i64 (.int .i64 (7)) (vI 6)
(.bin .shr .u64 (.sint .u64 17) (vI 18)
(.eql (.sint .u64 19) (.int .u64 (0))
(.ret [(.v (.int .u64 (0))),(gY 0),(gI 3),(.v (.bool true))])
(.bin .add .i64 (.int .i64 (1)) (vI 6)
(.bin .add .i64 (vI 1) (vI 20)
(.ret [(.v (.sint .u64 17)),(gY 0),(gI 21),(gY 2)]))))))
(.bin .add .i64 (.int .i64 (1)) (vI 6)
(.bin .add .i64 (vI 1) (vI 18)
(.ret [(.v (.sint .u64 17)),(gY 0),(gI 19),(gY 2)]))))
(.bin .shl .u64 (.sint .u64 17) (.int .u64 (8))
(.bin .add .i64 (vI 1) (.int .i64 (3))
(.sidx (.sym 0) (vI 19)
(.bin .or .u64 (.sint .u64 18) (.sint .u64 20)
(.lss (vI 6) (.int .i64 (4))
(.lss (.int .i64 (0)) (vI 6)
(.bin .mul .i64 (.int .i64 (7)) (vI 6)
(.bin .shr .u64 (.sint .u64 21) (vI 22)
(.eql (.sint .u64 23) (.int .u64 (0))
(.ret [(.v (.int .u64 (0))),(gY 0),(gI 3),(.v (.bool true))])
(.bin .add .i64 (.int .i64 (1)) (vI 6)
(.bin .add .i64 (vI 1) (vI 24)
(.ret [(.v (.sint .u64 21)),(gY 0),(gI 25),(gY 2)]))))))
(.bin .add .i64 (.int .i64 (1)) (vI 6)
(.bin .add .i64 (vI 1) (vI 22)
(.ret [(.v (.sint .u64 21)),(gY 0),(gI 23),(gY 2)]))))
(.bin .shl .u64 (.sint .u64 21) (.int .u64 (8))
(.bin .add .i64 (vI 1) (.int .i64 (4))
(.sidx (.sym 0) (vI 23)
(.bin .or .u64 (.sint .u64 22) (.sint .u64 24)
(.lss (vI 6) (.int .i64 (5))
(.lss (.int .i64 (0)) (vI 6)
(.bin .mul .i64 (.int .i64 (7)) (vI 6)
(.bin .shr .u64 (.sint .u64 25) (vI 26)
(.eql (.sint .u64 27) (.int .u64 (0))
(.ret [(.v (.int .u64 (0))),(gY 0),(gI 3),(.v (.bool true))])
(.bin .add .i64 (.int .i64 (1)) (vI 6)
(.bin .add .i64 (vI 1) (vI 28)
(.ret [(.v (.sint .u64 25)),(gY 0),(gI 29),(gY 2)]))))))
(.bin .add .i64 (.int .i64 (1)) (vI 6)
(.bin .add .i64 (vI 1) (vI 26)
(.ret [(.v (.sint .u64 25)),(gY 0),(gI 27),(gY 2)]))))
(.bin .shl .u64 (.sint .u64 25) (.int .u64 (8))
(.bin .add .i64 (vI 1) (.int .i64 (5))
(.sidx (.sym 0) (vI 27)
(.bin .or .u64 (.sint .u64 26) (.sint .u64 28)
(.lss (vI 6) (.int .i64 (6))
(.lss (.int .i64 (0)) (vI 6)
(.bin .mul .i64 (.int .i64 (7)) (vI 6)
(.bin .shr .u64 (.sint .u64 29) (vI 30)
(.eql (.sint .u64 31) (.int .u64 (0))
(.ret [(.v (.int .u64 (0))),(gY 0),(gI 3),(.v (.bool true))])
(.bin .add .i64 (.int .i64 (1)) (vI 6)
(.bin .add .i64 (vI 1) (vI 32)
(.ret [(.v (.sint .u64 29)),(gY 0),(gI 33),(gY 2)]))))))
(.bin .add .i64 (.int .i64 (1)) (vI 6)
(.bin .add .i64 (vI 1) (vI 30)
(.ret [(.v (.sint .u64 29)),(gY 0),(gI 31),(gY 2)]))))
(.bin .shl .u64 (.sint .u64 29) (.int .u64 (8))
(.bin .add .i64 (vI 1) (.int .i64 (6))
(.sidx (.sym 0) (vI 31)
(.bin .or .u64 (.sint .u64 30) (.sint .u64 32)
(.lss (vI 6) (.int .i64 (7))
(.lss (.int .i64 (0)) (vI 6)
(.bin .mul .i64 (.int .i64 (7)) (vI 6)
(.bin .shr .u64 (.sint .u64 33) (vI 34)
(.eql (.sint .u64 35) (.int .u64 (0))
(.ret [(.v (.int .u64 (0))),(gY 0),(gI 3),(.v (.bool true))])
(.bin .add .i64 (.int .i64 (1)) (vI 6)
(.bin .add .i64 (vI 1) (vI 36)
(.ret [(.v (.sint .u64 33)),(gY 0),(gI 37),(gY 2)]))))))
(.bin .add .i64 (.int .i64 (1)) (vI 6)
(.bin .add .i64 (vI 1) (vI 34)
(.ret [(.v (.sint .u64 33)),(gY 0),(gI 35),(gY 2)]))))
(.bin .shl .u64 (.sint .u64 33) (.int .u64 (8))
(.bin .add .i64 (vI 1) (.int .i64 (7))
(.sidx (.sym 0) (vI 35)
(.bin .or .u64 (.sint .u64 34) (.sint .u64 36)
(.lss (vI 6) (.int .i64 (8))
(.lss (.int .i64 (0)) (vI 6)
(.bin .mul .i64 (.int .i64 (7)) (vI 6)
(.bin .shr .u64 (.sint .u64 37) (vI 38)
(.eql (.sint .u64 39) (.int .u64 (0))
(.ret [(.v (.int .u64 (0))),(gY 0),(gI 3),(.v (.bool true))])
(.bin .add .i64 (.int .i64 (1)) (vI 6)
(.bin .add .i64 (vI 1) (vI 40)
(.ret [(.v (.sint .u64 37)),(gY 0),(gI 41),(gY 2)]))))))
(.bin .add .i64 (.int .i64 (1)) (vI 6)
(.bin .add .i64 (vI 1) (vI 38)
(.ret [(.v (.sint .u64 37)),(gY 0),(gI 39),(gY 2)]))))
(.bin .shl .u64 (.sint .u64 37) (.int .u64 (8))
(.bin .add .i64 (vI 1) (.int .i64 (8))
(.sidx (.sym 0) (vI 39)
(.bin .or .u64 (.sint .u64 38) (.sint .u64 40)
(.lss (vI 6) (.int .i64 (9))
(.lss (.int .i64 (0)) (vI 6)
(.bin .mul .i64 (.int .i64 (7)) (vI 6)
(.bin .shr .u64 (.sint .u64 41) (vI 42)
(.eql (.sint .u64 43) (.int .u64 (0))
(.ret [(.v (.int .u64 (0))),(gY 0),(gI 3),(.v (.bool true))])
(.bin .add .i64 (.int .i64 (1)) (vI 6)
(.bin .add .i64 (vI 1) (vI 44)
(.ret [(.v (.sint .u64 41)),(gY 0),(gI 45),(gY 2)]))))))
(.bin .add .i64 (.int .i64 (1)) (vI 6)
(.bin .add .i64 (vI 1) (vI 42)
(.ret [(.v (.sint .u64 41)),(gY 0),(gI 43),(gY 2)]))))
.no)))))))))))))))))))))))))))))))))))))))))))
(.ret [(.v (.int .u64 (0))),(gY 0),(gI 3),(.v (.bool true))]))))))
(.ret [(.v (.int .u64 (0))),(gY 0),(gI 3),(.v (.bool true))])))
def e3Y:FnO:=⟨[(.p 0 0)],[.s,tI,.b],[(.cells [(.d 0),(.d 1),(.d 2)] none 0 none)],[(.d (.i .u64))],[.s,tI,.b],[(.cells [(.d 1),(.d 2),(.d 3)] none 0 none)],[],[],c4r,[],[]⟩
def d2E:Vt:=(.goto 1001001 [(some 0)] [(gY 0),(gI 1),(gY 2)])
def b6K:Sig:=⟨a3u,[(4,(.p 0 0))],[(.cells [(.d 0),(.d 1),(.d 2)] none 0 none)]⟩
def a5K:Vt:=(.bin .shr .u64 (.sint .u64 3) (.int .u64 (1))
(.conv .i64 (.sint .u64 7)
(.bin .and .u64 (.sint .u64 3) (.int .u64 (1))
(.conv .i64 (.sint .u64 9)
(.un .neg .i64 (vI 10)
(.bin .xor .i64 (vI 8) (vI 11)
(.ret [(gI 12),(gY 4),(gI 5),(gY 6)])))))))
def a9l:MdO:=⟨1,1,0,[0],[(.sym 0),(vI 1),(.sym 2)],b6K,a5K⟩
def win:FnO:=⟨[(.p 0 0)],a3u,[(.cells [(.d 0),(.d 1),(.d 2)] none 0 none)],[(.d tI)],a3u,[(.cells [(.d 1),(.d 2),(.d 3)] none 0 none)],[],[(1,1)],d2E,[],[(1001001,a9l)]⟩
def d1z:Vt:=(.goto 1001001 [(some 0)] [(gY 0),(gI 1),(gY 2)])
def b6J:Sig:=⟨a3u,[(0,(.p 0 0)),(5,(.p 0 0))],[(.cells [(.d 0),(.d 1),(.d 2)] none 0 none)]⟩
def a5H:Vt:=(.fb 6
(.ret [(.v (.string ⟨#[]⟩)),(gY 4),(gI 5),(.v (.bool true))])
(.slen (.sym 4)
(.bin .sub .i64 (vI 7) (vI 5)
(.conv .u64 (vI 8)
(.lss (.sint .u64 9) (.sint .u64 3)
(.ret [(.v (.string ⟨#[]⟩)),(gY 4),(gI 7),(.v (.bool true))])
(.conv .i64 (.sint .u64 3)
(.bin .add .i64 (vI 5) (vI 10)
(.sub (.sym 4) (vI 5) (vI 11)
(.ret [(gY 12),(gY 4),(gI 11),(.v (.bool false))])))))))))
def a9k:MdO:=⟨1,1,0,[0],[(.sym 0),(vI 1),(.sym 2)],b6J,a5H⟩
def wtx:FnO:=⟨[(.p 0 0)],a3u,[(.cells [(.d 0),(.d 1),(.d 2)] none 0 none)],[(.d .s)],a3u,[(.cells [(.d 1),(.d 2),(.d 3)] none 0 none)],[],[(1,1)],d1z,[],[(1001001,a9k)]⟩
def d2G:Vt:=(.fb 2
(.ret [(.v (.bool false)),(gY 0),(gI 1),(.v (.bool true))])
(.slen (.sym 0)
(.eql (vI 1) (vI 3)
(.ret [(.v (.bool true)),(gY 0),(gI 1),(.v (.bool false))])
(.ret [(.v (.bool false)),(gY 0),(gI 1),(.v (.bool false))]))))
def wen:FnO:=⟨[(.p 0 0)],a3u,[(.cells [(.d 0),(.d 1),(.d 2)] none 0 none)],[(.d .b)],a3u,[(.cells [(.d 1),(.d 2),(.d 3)] none 0 none)],[],[],d2G,[],[]⟩
def d2A:Vt:=(.fb 2
(.ret [(.v (.bool false)),(gY 0),(gI 1),(.v (.bool true))])
(.ret [(.v (.bool true)),(gY 0),(gI 1),(.v (.bool false))]))
def wok:FnO:=⟨[(.p 0 0)],a3u,[(.cells [(.d 0),(.d 1),(.d 2)] none 0 none)],[(.d .b)],a3u,[(.cells [(.d 1),(.d 2),(.d 3)] none 0 none)],[],[],d2A,[],[]⟩
def d3T:Vt:=(.goto 1001004 [(some 0),(some 1)] [(gY 0),(gI 1),(gY 2)])
def b7U:Sig:=⟨a3u,[(0,(.p 0 0)),(7,(.p 1 0))],[(.cells [(.p 1 0)] none 0 none),(.cells [(.d 0),(.d 1),(.d 2)] none 0 none)]⟩
def b7R:Vt:=(.goto 1002004 [(some 0),(some 1)] [(.v (.sint .u64 3)),(gY 4),(gI 5),(gY 6)])
def a9x:MdO:=⟨1,4,0,[1],[(.sym 0),(vI 1),(.sym 2)],b7U,b7R⟩
def b7T:Sig:=⟨e3o,[(3,(.d 0)),(12,(.p 1 0))],[(.cells [(.p 1 0)] none 0 none),(.cells [(.d 1),(.d 2),(.d 3)] none 0 none)]⟩
def b7Q:Vt:=(.fb 4
(.lss (.sint .u64 0) (.int .u64 (65536))
(.goto 1002009 [(some 0),(some 1)] [(.v (.sint .u64 0)),(gY 5),(gI 6),(gY 7),(.v (.bool true))])
(.goto 1002009 [(some 0),(some 1)] [(.v (.sint .u64 0)),(gY 5),(gI 6),(gY 7),(.v (.bool false))]))
(.goto 1002009 [(some 0),(some 1)] [(.v (.sint .u64 0)),(gY 5),(gI 6),(gY 7),(.v (.bool false))]))
def a5a:MdO:=⟨2,4,1,[1],[(.sym 1),(vI 2),(.sym 3)],b7T,b7Q⟩
def b7S:Sig:=⟨e3n,[(3,(.d 0)),(17,(.d 4))],[(.cells [(.p 1 0)] none 0 none),(.cells [(.d 1),(.d 2),(.d 3)] none 0 none)]⟩
def b7P:Vt:=(.conv .i64 (.sint .u64 0)
(.ret [(gI 5),(gY 1),(gI 2),(gY 3)]))
def a3l:MdO:=⟨2,9,2,[],[(.sym 4)],b7S,b7P⟩
def num:FnO:=⟨[(.p 0 0)],a3u,[(.cells [(.p 1 0)] none 0 none),(.cells [(.d 0),(.d 1),(.d 2)] none 0 none)],[(.d tI)],a3u,[(.cells [(.p 1 0)] none 0 none),(.cells [(.d 1),(.d 2),(.d 3)] none 0 none)],[],[(1,4),(2,4),(2,9)],d3T,[],[(1001004,a9x),(1002004,a5a),(1002009,a3l)]⟩
def d2F:Vt:=(.goto 1001004 [(some 0),(some 1)] [(gY 0),(gI 1),(gY 2)])
def b6Q:Sig:=⟨a3u,[(0,(.p 0 0)),(7,(.p 1 0))],[(.cells [(.p 1 0)] none 0 none),(.cells [(.d 0),(.d 1),(.d 2)] none 0 none)]⟩
def b6N:Vt:=(.goto 1002004 [(some 0),(some 1)] [(gI 3),(gY 4),(gI 5),(gY 6)])
def a9m:MdO:=⟨1,4,0,[1],[(.sym 0),(vI 1),(.sym 2)],b6Q,b6N⟩
def b6P:Sig:=⟨d2Z,[(3,(.d 0)),(12,(.p 1 0))],[(.cells [(.p 1 0)] none 0 none),(.cells [(.d 1),(.d 2),(.d 3)] none 0 none)]⟩
def b6M:Vt:=(.goto 1002005 [(some 0),(some 1)] [(gI 0),(gY 4),(gY 5),(gI 6),(gY 7)])
def a5M:MdO:=⟨2,4,1,[1],[(.sym 1),(vI 2),(.sym 3)],b6P,b6M⟩
def b6O:Sig:=⟨e3m,[(3,(.d 0)),(13,(.d 1))],[(.cells [(.p 1 0)] none 0 none),(.cells [(.d 2),(.d 3),(.d 4)] none 0 none)]⟩
def b6L:Vt:=(.ret [(gI 0),(gY 2),(gI 3),(gY 4)])
def a5L:MdO:=⟨2,5,2,[],[(.sym 1)],b6O,b6L⟩
def who:FnO:=⟨[(.p 0 0)],a3u,[(.cells [(.p 1 0)] none 0 none),(.cells [(.d 0),(.d 1),(.d 2)] none 0 none)],[(.d tI)],a3u,[(.cells [(.p 1 0)] none 0 none),(.cells [(.d 1),(.d 2),(.d 3)] none 0 none)],[],[(1,4),(2,4),(2,5)],d2F,[],[(1001004,a9m),(1002004,a5M),(1002005,a5L)]⟩
def d3Z:Vt:=(.goto 0 [(some 0),(some 1),(some 2)] [(gY 0),(gI 1),(gY 2),(.v (.int .i64 (0))),(.v (.int .i64 (0))),(.v (.int .i64 (0))),(.v (.int .i64 (0))),(.v (.int .i64 (0)))])
def d6y:Sig:=⟨e3l,[(0,(.p 0 0)),(2,(.p 2 0)),(4,(.d 3))],[(.cells [(.p 1 0)] none 0 none),(.cells [(.d 0),(.d 1),(.d 2)] none 0 none),(.cells [(.d 4),(.d 5),(.d 6),(.d 7)] none 0 (some 37))]⟩
def c6e:Vt:=(.lss (vI 3) (.int .i64 (4))
(.goto 1004002 [(some 0),(some 1),(some 2)] [(gY 0),(gI 1),(gY 2),(gI 3),(gI 3),(gI 4),(gI 5),(gI 6),(gI 7)])
(.ret [(gI 4),(gI 5),(gI 6),(gI 7),(gY 0),(gI 1),(gY 2)]))
def b7Y:Sig:=⟨e3k,[(0,(.p 0 0)),(2,(.p 2 0)),(4,(.d 3)),(7,(.d 4)),(8,(.p 0 0))],[(.cells [(.p 1 0)] none 0 none),(.cells [(.d 0),(.d 1),(.d 2)] none 0 none),(.cells [(.d 5),(.d 6),(.d 7),(.d 8)] none 0 (some 37))]⟩
def a5c:Vt:=(.eql (vI 4) (.int .i64 (0))
(.bin .add .i64 (vI 3) (.int .i64 (1))
(.goto 0 [(some 0),(some 1),(some 2)] [(gY 10),(gI 11),(gY 12),(gI 13),(gI 9),(gI 6),(gI 7),(gI 8)]))
(.eql (vI 4) (.int .i64 (1))
(.bin .add .i64 (vI 3) (.int .i64 (1))
(.goto 0 [(some 0),(some 1),(some 2)] [(gY 10),(gI 11),(gY 12),(gI 13),(gI 5),(gI 9),(gI 7),(gI 8)]))
(.eql (vI 4) (.int .i64 (2))
(.bin .add .i64 (vI 3) (.int .i64 (1))
(.goto 0 [(some 0),(some 1),(some 2)] [(gY 10),(gI 11),(gY 12),(gI 13),(gI 5),(gI 6),(gI 9),(gI 8)]))
(.eql (vI 4) (.int .i64 (3))
(.bin .add .i64 (vI 3) (.int .i64 (1))
(.goto 0 [(some 0),(some 1),(some 2)] [(gY 10),(gI 11),(gY 12),(gI 13),(gI 5),(gI 6),(gI 7),(gI 9)]))
.no))))
def a9y:MdO:=⟨4,2,0,[0,1],[(.sym 0),(vI 1),(.sym 2)],b7Y,a5c⟩
def mna:FnO:=⟨[(.p 0 0)],a3u,[(.cells [(.p 1 0)] none 0 none),(.cells [(.d 0),(.d 1),(.d 2)] none 0 none)],[(.st e3j)],a3u,[(.cells [(.p 1 0)] none 0 none),(.cells [(.d 4),(.d 5),(.d 6)] none 0 none)],[0],[(4,2)],d3Z,[(0,d6y,c6e)],[(1004002,a9y)]⟩
def d3v:Vt:=(.goto 1001001 [(some 0),(some 1),(some 2)] [(gY 0),(gI 1),(gY 2)])
def b7w:Sig:=⟨a3u,[(0,(.p 0 0)),(2,(.p 2 0)),(3,(.p 0 0))],[(.cells [(.p 1 0)] none 0 none),(.cells [(.d 0),(.d 1),(.d 2)] none 0 none),(.cells [(.k (.int .i64 (0))),(.k (.int .i64 (0))),(.k (.int .i64 (0)))] none 0 (some 43))]⟩
def b7t:Vt:=(.goto 1001003 [(some 0),(some 1),(some 2)] [(gI 3),(gY 4),(gI 5),(gY 6)])
def b0O:MdO:=⟨1,1,0,[0,1],[(.sym 0),(vI 1),(.sym 2)],b7w,b7t⟩
def b7v:Sig:=⟨d2Z,[(0,(.p 0 0)),(2,(.p 2 0)),(4,(.d 0)),(5,(.p 0 0))],[(.cells [(.p 1 0)] none 0 none),(.cells [(.d 1),(.d 2),(.d 3)] none 0 none),(.cells [(.k (.int .i64 (0))),(.k (.int .i64 (0))),(.k (.int .i64 (0)))] none 0 (some 43))]⟩
def b7s:Vt:=(.goto 1001005 [(some 0),(some 1),(some 2)] [(gI 0),(gI 4),(gY 5),(gI 6),(gY 7)])
def b0N:MdO:=⟨1,3,1,[0,1],[(.sym 1),(vI 2),(.sym 3)],b7v,b7s⟩
def b7u:Sig:=⟨e2k,[(2,(.p 2 0)),(4,(.d 0)),(6,(.d 1)),(7,(.p 0 0))],[(.cells [(.p 1 0)] none 0 none),(.cells [(.d 2),(.d 3),(.d 4)] none 0 none),(.cells [(.k (.int .i64 (0))),(.k (.int .i64 (0))),(.k (.int .i64 (0)))] none 0 (some 43))]⟩
def b7r:Vt:=(.ret [(gI 0),(gI 1),(gI 5),(gY 6),(gI 7),(gY 8)])
def b0M:MdO:=⟨1,5,1,[0,1],[(.sym 2),(vI 3),(.sym 4)],b7u,b7r⟩
def ins:FnO:=⟨[(.p 0 0)],a3u,[(.cells [(.p 1 0)] none 0 none),(.cells [(.d 0),(.d 1),(.d 2)] none 0 none)],[(.st c8V)],a3u,[(.cells [(.p 1 0)] none 0 none),(.cells [(.d 3),(.d 4),(.d 5)] none 0 none)],[],[(1,1),(1,3),(1,5)],d3v,[],[(1001001,b0O),(1001003,b0N),(1001005,b0M)]⟩
def d3f:Vt:=(.goto 1001001 [(some 0),(some 1)] [(gI 3),(gY 0),(gI 1),(gY 2)])
def d1R:Sig:=⟨e0V,[(2,(.fp 46 0)),(8,(.own 2 4 5)),(15,(.d 0)),(16,(.d 6))],[(.cells [(.p 1 0)] none 0 none),(.cells [(.d 1),(.d 2),(.d 3)] none 0 none),(.lst 4 5 [tI] (some 3) 2)]⟩
def c6r:Vt:=(.fb 5
(.lss (vI 6) (vI 0)
(.goto 1006002 [(some 0),(some 1),none] [(gI 0),(gY 1),(gI 2),(gY 3),(gI 6),(.ow (.slice none 0 0) none []),(.v (.bool true))])
(.ret [(.v (.slice none 0 0)),(gY 1),(gI 2),(gY 3)]))
(.lss (vI 6) (vI 0)
(.goto 1006002 [(some 0),(some 1),(some 2)] [(gI 0),(gY 1),(gI 2),(gY 3),(gI 6),(.ow (.lsl 2 4 0) (some 4) []),(.v (.bool false))])
(.ret [(.app (.lsl 2 4 0) 4 []),(gY 1),(gI 2),(gY 3)])))
def b7f:Sig:=⟨d2Z,[(1,(.d 0)),(2,(.fp 46 0)),(9,(.p 0 0))],[(.cells [(.p 1 0)] none 0 none),(.cells [(.d 1),(.d 2),(.d 3)] none 0 none)]⟩
def a5f:Vt:=(.lss (vI 0) (vI 4)
(.goto 1002003 [(some 0),(some 1)] [(gI 4),(gY 5),(gI 6),(gY 7),(.v (.bool false))])
(.goto 1002003 [(some 0),(some 1)] [(gI 4),(gY 5),(gI 6),(gY 7),(.v (.bool true))]))
def b0C:MdO:=⟨1,1,0,[0,1],[(.sym 1),(vI 2),(.sym 3)],b7f,a5f⟩
def b7e:Sig:=⟨c8q,[(2,(.fp 46 0)),(7,(.d 0)),(13,(.d 4))],[(.cells [(.p 1 0)] none 0 none),(.cells [(.d 1),(.d 2),(.d 3)] none 0 none)]⟩
def a5e:Vt:=(.goto 0 [(some 0),(some 1),none] [(gI 0),(gY 1),(gI 2),(gY 3),(.ow (.slice none 0 0) none []),(.v (.bool true)),(.v (.int .i64 (0)))])
def a5h:MdO:=⟨2,3,1,[],[(.sym 4)],b7e,a5e⟩
def a5g:Sig:=⟨e0U,[(2,(.fp 46 0)),(15,(.d 0)),(16,(.d 4)),(18,(.own 2 5 6)),(19,(.fp 46 0))],[(.cells [(.p 1 0)] none 0 none),(.cells [(.d 1),(.d 2),(.d 3)] none 0 none),(.lst 5 6 [tI] (some 3) 2)]⟩
def a5d:Vt:=(.fb 6
(.bin .add .i64 (vI 4) (.int .i64 (1))
(.goto 0 [(some 0),(some 1),(some 4)] [(gI 0),(gY 8),(gI 9),(gY 10),(.ow (.slice (some ⟨(.loc 4),0⟩) 1 1) none [[(gI 7)]]),(.v (.bool false)),(gI 11)]))
(.bin .add .i64 (vI 4) (.int .i64 (1))
(.goto 0 [(some 0),(some 1),(some 4)] [(gI 0),(gY 8),(gI 9),(gY 10),(.ow (.lsl 4 5 1) (some 5) [[(gI 7)]]),(.v (.bool false)),(gI 11)])))
def b0B:MdO:=⟨6,2,0,[0,1],[(.sym 1),(vI 2),(.sym 3)],a5g,a5d⟩
def lin:FnO:=⟨[(.p 0 0),(.d 3),(.fp 46 0)],c8p,[(.cells [(.p 1 0)] none 0 none),(.cells [(.d 0),(.d 1),(.d 2)] none 0 none)],[(.d (.l b6W))],a3u,[(.cells [(.p 1 0)] none 0 none),(.cells [(.d 1),(.d 2),(.d 3)] none 0 none)],[0],[(1,1),(2,3),(6,2)],d3f,[(0,d1R,c6r)],[(1001001,b0C),(1002003,a5h),(1006002,b0B)]⟩
def d3i:Vt:=(.goto 1001001 [(some 0),(some 1)] [(gI 3),(gY 0),(gI 1),(gY 2)])
def d1S:Sig:=⟨e0T,[(2,(.fp 72 0)),(8,(.own 2 4 5)),(15,(.d 0)),(16,(.d 6))],[(.cells [(.p 1 0)] none 0 none),(.cells [(.d 1),(.d 2),(.d 3)] none 0 none),(.lst 4 5 c8V (some 43) 32)]⟩
def c6w:Vt:=(.fb 5
(.lss (vI 6) (vI 0)
(.goto 1006002 [(some 0),(some 1),none] [(gI 0),(gY 1),(gI 2),(gY 3),(gI 6),(.ow (.slice none 0 0) none []),(.v (.bool true))])
(.ret [(.v (.slice none 0 0)),(gY 1),(gI 2),(gY 3)]))
(.lss (vI 6) (vI 0)
(.goto 1006002 [(some 0),(some 1),(some 2)] [(gI 0),(gY 1),(gI 2),(gY 3),(gI 6),(.ow (.lsl 2 4 0) (some 4) []),(.v (.bool false))])
(.ret [(.app (.lsl 2 4 0) 4 []),(gY 1),(gI 2),(gY 3)])))
def b7k:Sig:=⟨d2Z,[(1,(.d 0)),(2,(.fp 72 0)),(9,(.p 0 0))],[(.cells [(.p 1 0)] none 0 none),(.cells [(.d 1),(.d 2),(.d 3)] none 0 none)]⟩
def a5l:Vt:=(.lss (vI 0) (vI 4)
(.goto 1002003 [(some 0),(some 1)] [(gI 4),(gY 5),(gI 6),(gY 7),(.v (.bool false))])
(.goto 1002003 [(some 0),(some 1)] [(gI 4),(gY 5),(gI 6),(gY 7),(.v (.bool true))]))
def b0F:MdO:=⟨1,1,0,[0,1],[(.sym 1),(vI 2),(.sym 3)],b7k,a5l⟩
def b7j:Sig:=⟨c8q,[(2,(.fp 72 0)),(7,(.d 0)),(13,(.d 4))],[(.cells [(.p 1 0)] none 0 none),(.cells [(.d 1),(.d 2),(.d 3)] none 0 none)]⟩
def a5k:Vt:=(.goto 0 [(some 0),(some 1),none] [(gI 0),(gY 1),(gI 2),(gY 3),(.ow (.slice none 0 0) none []),(.v (.bool true)),(.v (.int .i64 (0)))])
def a5n:MdO:=⟨2,3,1,[],[(.sym 4)],b7j,a5k⟩
def a5m:Sig:=⟨e0S,[(2,(.fp 72 0)),(15,(.d 0)),(16,(.d 4)),(18,(.own 2 5 6)),(19,(.fp 72 0))],[(.cells [(.p 1 0)] none 0 none),(.cells [(.d 1),(.d 2),(.d 3)] none 0 none),(.lst 5 6 c8V (some 43) 32)]⟩
def a5j:Vt:=(.fb 6
(.bin .add .i64 (vI 4) (.int .i64 (1))
(.goto 0 [(some 0),(some 1),(some 4)] [(gI 0),(gY 10),(gI 11),(gY 12),(.ow (.slice (some ⟨(.loc 4),0⟩) 1 1) none [[(gI 7),(gI 8),(gI 9)]]),(.v (.bool false)),(gI 13)]))
(.bin .add .i64 (vI 4) (.int .i64 (1))
(.goto 0 [(some 0),(some 1),(some 4)] [(gI 0),(gY 10),(gI 11),(gY 12),(.ow (.lsl 4 5 1) (some 5) [[(gI 7),(gI 8),(gI 9)]]),(.v (.bool false)),(gI 13)])))
def b0E:MdO:=⟨6,2,2,[0,1],[(.sym 1),(vI 2),(.sym 3)],a5m,a5j⟩
def lco:FnO:=⟨[(.p 0 0),(.d 3),(.fp 72 0)],c8p,[(.cells [(.p 1 0)] none 0 none),(.cells [(.d 0),(.d 1),(.d 2)] none 0 none)],[(.d (.l c8V))],a3u,[(.cells [(.p 1 0)] none 0 none),(.cells [(.d 1),(.d 2),(.d 3)] none 0 none)],[0],[(1,1),(2,3),(6,2)],d3i,[(0,d1S,c6w)],[(1001001,b0F),(1002003,a5n),(1006002,b0E)]⟩
def d5I:Vt:=(.goto 1001001 [(some 0),(some 1),(some 2)] [(gY 0),(gI 1),(gY 2)])
def b9a:Sig:=⟨a3u,[(0,(.p 0 0)),(2,(.p 2 0)),(5,(.p 0 0))],[(.cells [(.p 1 0)] none 0 none),(.cells [(.d 0),(.d 1),(.d 2)] none 0 none),(.cells [(.k (.int .i64 (0))),(.k (.int .i64 (0))),(.k (.int .i64 (0))),(.k (.int .i64 (0))),(.k (.int .i64 (0))),(.k (.int .i64 (0))),(.k (.int .i64 (0))),(.k (.bool false)),(.k (.slice none 0 0)),(.k (.slice none 0 0)),(.k (.int .i64 (0))),(.k (.int .i64 (0))),(.k (.int .i64 (0)))] none 0 (some 46))]⟩
def b9P:Vt:=(.goto 1001003 [(some 0),(some 1),(some 2)] [(gI 3),(gY 4),(gI 5),(gY 6)])
def b0s:MdO:=⟨1,1,0,[0,1],[(.sym 0),(vI 1),(.sym 2)],b9a,b9P⟩
def b9Z:Sig:=⟨d2Z,[(0,(.p 0 0)),(2,(.p 2 0)),(6,(.d 0)),(7,(.p 0 0))],[(.cells [(.p 1 0)] none 0 none),(.cells [(.d 1),(.d 2),(.d 3)] none 0 none),(.cells [(.k (.int .i64 (0))),(.k (.int .i64 (0))),(.k (.int .i64 (0))),(.k (.int .i64 (0))),(.k (.int .i64 (0))),(.k (.int .i64 (0))),(.k (.int .i64 (0))),(.k (.bool false)),(.k (.slice none 0 0)),(.k (.slice none 0 0)),(.k (.int .i64 (0))),(.k (.int .i64 (0))),(.k (.int .i64 (0)))] none 0 (some 46))]⟩
def b9O:Vt:=(.goto 1001005 [(some 0),(some 1),(some 2)] [(gI 0),(gI 4),(gY 5),(gI 6),(gY 7)])
def b0r:MdO:=⟨1,3,0,[0,1],[(.sym 1),(vI 2),(.sym 3)],b9Z,b9O⟩
def b9Y:Sig:=⟨e2k,[(0,(.p 0 0)),(2,(.p 2 0)),(6,(.d 0)),(8,(.d 1)),(9,(.p 0 0))],[(.cells [(.p 1 0)] none 0 none),(.cells [(.d 2),(.d 3),(.d 4)] none 0 none),(.cells [(.k (.int .i64 (0))),(.k (.int .i64 (0))),(.k (.int .i64 (0))),(.k (.int .i64 (0))),(.k (.int .i64 (0))),(.k (.int .i64 (0))),(.k (.int .i64 (0))),(.k (.bool false)),(.k (.slice none 0 0)),(.k (.slice none 0 0)),(.k (.int .i64 (0))),(.k (.int .i64 (0))),(.k (.int .i64 (0)))] none 0 (some 46))]⟩
def b9N:Vt:=(.goto 1001007 [(some 0),(some 1),(some 2)] [(gI 0),(gI 1),(gI 5),(gY 6),(gI 7),(gY 8)])
def b0q:MdO:=⟨1,5,0,[0,1],[(.sym 2),(vI 3),(.sym 4)],b9Y,b9N⟩
def b9X:Sig:=⟨e0R,[(0,(.p 0 0)),(2,(.p 2 0)),(6,(.d 0)),(8,(.d 1)),(10,(.d 2)),(11,(.p 0 0))],[(.cells [(.p 1 0)] none 0 none),(.cells [(.d 3),(.d 4),(.d 5)] none 0 none),(.cells [(.k (.int .i64 (0))),(.k (.int .i64 (0))),(.k (.int .i64 (0))),(.k (.int .i64 (0))),(.k (.int .i64 (0))),(.k (.int .i64 (0))),(.k (.int .i64 (0))),(.k (.bool false)),(.k (.slice none 0 0)),(.k (.slice none 0 0)),(.k (.int .i64 (0))),(.k (.int .i64 (0))),(.k (.int .i64 (0)))] none 0 (some 46))]⟩
def b9M:Vt:=(.goto 1002001 [(some 0),(some 1),(some 2),(some 3)] [(gY 10),(gI 11),(gY 12),(gI 0),(gI 1),(gI 2),(gI 6),(gI 7),(gI 8),(gI 9)])
def b0p:MdO:=⟨1,7,2,[0,1],[(.sym 3),(vI 4),(.sym 5)],b9X,b9M⟩
def b9W:Sig:=⟨e0Q,[(0,(.p 0 0)),(2,(.p 2 0)),(3,(.p 3 0)),(14,(.p 0 0))],[(.cells [(.p 1 0)] none 0 none),(.cells [(.d 0),(.d 1),(.d 2)] none 0 none),(.cells [(.k (.int .i64 (0))),(.k (.int .i64 (0))),(.k (.int .i64 (0))),(.k (.int .i64 (0))),(.k (.int .i64 (0))),(.k (.int .i64 (0))),(.k (.int .i64 (0))),(.k (.bool false)),(.k (.slice none 0 0)),(.k (.slice none 0 0)),(.k (.int .i64 (0))),(.k (.int .i64 (0))),(.k (.int .i64 (0)))] none 0 (some 46)),(.cells [(.d 3),(.d 4),(.d 5),(.d 6),(.d 7),(.d 8),(.d 9),(.k (.bool false)),(.k (.slice none 0 0)),(.k (.slice none 0 0)),(.k (.int .i64 (0))),(.k (.int .i64 (0))),(.k (.int .i64 (0)))] none 0 (some 46))]⟩
def b9L:Vt:=(.lss (.int .i64 (1)) (vI 10)
(.goto 1003002 [(some 0),(some 1),(some 2),(some 3)] [(gI 10),(gY 11),(gI 12),(gY 13),(gI 3),(gI 4),(gI 5),(gI 6),(gI 7),(gI 8),(gI 9),(.v (.bool false))])
(.goto 1003002 [(some 0),(some 1),(some 2),(some 3)] [(gI 10),(gY 11),(gI 12),(gY 13),(gI 3),(gI 4),(gI 5),(gI 6),(gI 7),(gI 8),(gI 9),(.v (.bool true))]))
def b0o:MdO:=⟨2,1,0,[0,1],[(.sym 0),(vI 1),(.sym 2)],b9W,b9L⟩
def b9V:Sig:=⟨e0P,[(0,(.p 0 0)),(2,(.p 2 0)),(3,(.p 3 0)),(4,(.d 0)),(17,(.d 11))],[(.cells [(.p 1 0)] none 0 none),(.cells [(.d 1),(.d 2),(.d 3)] none 0 none),(.cells [(.k (.int .i64 (0))),(.k (.int .i64 (0))),(.k (.int .i64 (0))),(.k (.int .i64 (0))),(.k (.int .i64 (0))),(.k (.int .i64 (0))),(.k (.int .i64 (0))),(.k (.bool false)),(.k (.slice none 0 0)),(.k (.slice none 0 0)),(.k (.int .i64 (0))),(.k (.int .i64 (0))),(.k (.int .i64 (0)))] none 0 (some 46)),(.cells [(.d 4),(.d 5),(.d 6),(.d 7),(.d 8),(.d 9),(.d 10),(.k (.bool false)),(.k (.slice none 0 0)),(.k (.slice none 0 0)),(.k (.int .i64 (0))),(.k (.int .i64 (0))),(.k (.int .i64 (0)))] none 0 (some 46))]⟩
def b9K:Vt:=(.eql (vI 0) (.int .i64 (1))
(.goto 1005003 [(some 0),(some 1),(some 2),(some 3)] [(gY 1),(gI 2),(gY 3),(gI 4),(gI 5),(gI 6),(gI 7),(gI 8),(gI 9),(gI 10),(.v (.bool true))])
(.goto 1005003 [(some 0),(some 1),(some 2),(some 3)] [(gY 1),(gI 2),(gY 3),(gI 4),(gI 5),(gI 6),(gI 7),(gI 8),(gI 9),(gI 10),(.v (.bool false))]))
def a6S:MdO:=⟨3,2,1,[],[(.sym 11)],b9V,b9K⟩
def b9U:Sig:=⟨e0O,[(0,(.p 0 0)),(2,(.p 2 0)),(3,(.p 3 0)),(22,(.p 0 0)),(24,(.fp 46 0))],[(.cells [(.p 1 0)] none 0 none),(.cells [(.d 0),(.d 1),(.d 2)] none 0 none),(.cells [(.k (.int .i64 (0))),(.k (.int .i64 (0))),(.k (.int .i64 (0))),(.k (.int .i64 (0))),(.k (.int .i64 (0))),(.k (.int .i64 (0))),(.k (.int .i64 (0))),(.k (.bool false)),(.k (.slice none 0 0)),(.k (.slice none 0 0)),(.k (.int .i64 (0))),(.k (.int .i64 (0))),(.k (.int .i64 (0)))] none 0 (some 46)),(.cells [(.d 3),(.d 4),(.d 5),(.d 6),(.d 7),(.d 8),(.d 9),(.d 10),(.k (.slice none 0 0)),(.k (.slice none 0 0)),(.k (.int .i64 (0))),(.k (.int .i64 (0))),(.k (.int .i64 (0)))] none 0 (some 46))]⟩
def b9J:Vt:=(.goto 1006003 [(some 0),(some 1),(some 2),(some 3)] [(gY 12),(gI 13),(gY 14),(gI 3),(gI 4),(gI 5),(gI 6),(gI 7),(gI 8),(gI 9),(gY 10),(gY 11)])
def b0n:MdO:=⟨5,3,3,[0,1],[(.sym 0),(vI 1),(.sym 2),(.int .i64 (2))],b9U,b9J⟩
def b9T:Sig:=⟨e0N,[(0,(.p 0 0)),(2,(.p 2 0)),(3,(.p 3 0)),(27,(.p 0 0)),(29,(.fp 72 0))],[(.cells [(.p 1 0)] none 0 none),(.cells [(.d 0),(.d 1),(.d 2)] none 0 none),(.cells [(.k (.int .i64 (0))),(.k (.int .i64 (0))),(.k (.int .i64 (0))),(.k (.int .i64 (0))),(.k (.int .i64 (0))),(.k (.int .i64 (0))),(.k (.int .i64 (0))),(.k (.bool false)),(.k (.slice none 0 0)),(.k (.slice none 0 0)),(.k (.int .i64 (0))),(.k (.int .i64 (0))),(.k (.int .i64 (0)))] none 0 (some 46)),(.cells [(.d 3),(.d 4),(.d 5),(.d 6),(.d 7),(.d 8),(.d 9),(.d 10),(.d 11),(.k (.slice none 0 0)),(.k (.int .i64 (0))),(.k (.int .i64 (0))),(.k (.int .i64 (0)))] none 0 (some 46))]⟩
def b9I:Vt:=(.goto 1007001 [(some 0),(some 1),(some 2),(some 3)] [(gY 13),(gI 14),(gY 15),(gI 3),(gI 4),(gI 5),(gI 6),(gI 7),(gI 8),(gI 9),(gY 10),(gY 11),(gY 12)])
def b0m:MdO:=⟨6,3,4,[0,1],[(.sym 0),(vI 1),(.sym 2),(.int .i64 (32))],b9T,b9I⟩
def b9S:Sig:=⟨e0M,[(0,(.p 0 0)),(2,(.p 2 0)),(3,(.p 3 0)),(32,(.p 0 0))],[(.cells [(.p 1 0)] none 0 none),(.cells [(.d 0),(.d 1),(.d 2)] none 0 none),(.cells [(.k (.int .i64 (0))),(.k (.int .i64 (0))),(.k (.int .i64 (0))),(.k (.int .i64 (0))),(.k (.int .i64 (0))),(.k (.int .i64 (0))),(.k (.int .i64 (0))),(.k (.bool false)),(.k (.slice none 0 0)),(.k (.slice none 0 0)),(.k (.int .i64 (0))),(.k (.int .i64 (0))),(.k (.int .i64 (0)))] none 0 (some 46)),(.cells [(.d 3),(.d 4),(.d 5),(.d 6),(.d 7),(.d 8),(.d 9),(.d 10),(.d 11),(.d 12),(.k (.int .i64 (0))),(.k (.int .i64 (0))),(.k (.int .i64 (0)))] none 0 (some 46))]⟩
def b9H:Vt:=(.goto 1007003 [(some 0),(some 1),(some 2),(some 3)] [(gI 13),(gY 14),(gI 15),(gY 16),(gI 3),(gI 4),(gI 5),(gI 6),(gI 7),(gI 8),(gI 9),(gY 10),(gY 11),(gY 12)])
def b0l:MdO:=⟨7,1,0,[0,1],[(.sym 0),(vI 1),(.sym 2)],b9S,b9H⟩
def b9R:Sig:=⟨e0L,[(0,(.p 0 0)),(2,(.p 2 0)),(3,(.p 3 0)),(33,(.d 0)),(34,(.p 0 0))],[(.cells [(.p 1 0)] none 0 none),(.cells [(.d 1),(.d 2),(.d 3)] none 0 none),(.cells [(.k (.int .i64 (0))),(.k (.int .i64 (0))),(.k (.int .i64 (0))),(.k (.int .i64 (0))),(.k (.int .i64 (0))),(.k (.int .i64 (0))),(.k (.int .i64 (0))),(.k (.bool false)),(.k (.slice none 0 0)),(.k (.slice none 0 0)),(.k (.int .i64 (0))),(.k (.int .i64 (0))),(.k (.int .i64 (0)))] none 0 (some 46)),(.cells [(.d 4),(.d 5),(.d 6),(.d 7),(.d 8),(.d 9),(.d 10),(.d 11),(.d 12),(.d 13),(.k (.int .i64 (0))),(.k (.int .i64 (0))),(.k (.int .i64 (0)))] none 0 (some 46))]⟩
def b9G:Vt:=(.goto 1007005 [(some 0),(some 1),(some 2),(some 3)] [(gI 0),(gI 14),(gY 15),(gI 16),(gY 17),(gI 4),(gI 5),(gI 6),(gI 7),(gI 8),(gI 9),(gI 10),(gY 11),(gY 12),(gY 13)])
def b0k:MdO:=⟨7,3,5,[0,1],[(.sym 1),(vI 2),(.sym 3)],b9R,b9G⟩
def b9Q:Sig:=⟨e0K,[(2,(.p 2 0)),(3,(.p 3 0)),(33,(.d 0)),(35,(.d 1)),(36,(.p 0 0))],[(.cells [(.p 1 0)] none 0 none),(.cells [(.d 2),(.d 3),(.d 4)] none 0 none),(.cells [(.k (.int .i64 (0))),(.k (.int .i64 (0))),(.k (.int .i64 (0))),(.k (.int .i64 (0))),(.k (.int .i64 (0))),(.k (.int .i64 (0))),(.k (.int .i64 (0))),(.k (.bool false)),(.k (.slice none 0 0)),(.k (.slice none 0 0)),(.k (.int .i64 (0))),(.k (.int .i64 (0))),(.k (.int .i64 (0)))] none 0 (some 46)),(.cells [(.d 5),(.d 6),(.d 7),(.d 8),(.d 9),(.d 10),(.d 11),(.d 12),(.d 13),(.d 14),(.k (.int .i64 (0))),(.k (.int .i64 (0))),(.k (.int .i64 (0)))] none 0 (some 46))]⟩
def b9F:Vt:=(.ret [(gI 5),(gI 6),(gI 7),(gI 8),(gI 9),(gI 10),(gI 11),(gY 12),(gY 13),(gY 14),(gI 0),(gI 1),(gI 15),(gY 16),(gI 17),(gY 18)])
def b0j:MdO:=⟨7,5,5,[0,1],[(.sym 2),(vI 3),(.sym 4)],b9Q,b9F⟩
def abi:FnO:=⟨[(.p 0 0)],a3u,[(.cells [(.p 1 0)] none 0 none),(.cells [(.d 0),(.d 1),(.d 2)] none 0 none)],[(.st b9q)],a3u,[(.cells [(.p 1 0)] none 0 none),(.cells [(.d 13),(.d 14),(.d 15)] none 0 none)],[],[(1,1),(1,3),(1,5),(1,7),(2,1),(3,2),(5,3),(6,3),(7,1),(7,3),(7,5)],d5I,[],[(1001001,b0s),(1001003,b0r),(1001005,b0q),(1001007,b0p),(1002001,b0o),(1003002,a6S),(1005003,b0n),(1006003,b0m),(1007001,b0l),(1007003,b0k),(1007005,b0j)]⟩
def d3l:Vt:=(.goto 1001001 [(some 0),(some 1)] [(gI 3),(gY 0),(gI 1),(gY 2)])
def d1U:Sig:=⟨e0J,[(2,(.fp 51 0)),(8,(.own 2 4 5)),(15,(.d 0)),(16,(.d 6))],[(.cells [(.p 1 0)] none 0 none),(.cells [(.d 1),(.d 2),(.d 3)] none 0 none),(.lst 4 5 b9q (some 46) 4)]⟩
def c6y:Vt:=(.fb 5
(.lss (vI 6) (vI 0)
(.goto 1006002 [(some 0),(some 1),none] [(gI 0),(gY 1),(gI 2),(gY 3),(gI 6),(.ow (.slice none 0 0) none []),(.v (.bool true))])
(.ret [(.v (.slice none 0 0)),(gY 1),(gI 2),(gY 3)]))
(.lss (vI 6) (vI 0)
(.goto 1006002 [(some 0),(some 1),(some 2)] [(gI 0),(gY 1),(gI 2),(gY 3),(gI 6),(.ow (.lsl 2 4 0) (some 4) []),(.v (.bool false))])
(.ret [(.app (.lsl 2 4 0) 4 []),(gY 1),(gI 2),(gY 3)])))
def b7o:Sig:=⟨d2Z,[(1,(.d 0)),(2,(.fp 51 0)),(9,(.p 0 0))],[(.cells [(.p 1 0)] none 0 none),(.cells [(.d 1),(.d 2),(.d 3)] none 0 none)]⟩
def a5v:Vt:=(.lss (vI 0) (vI 4)
(.goto 1002003 [(some 0),(some 1)] [(gI 4),(gY 5),(gI 6),(gY 7),(.v (.bool false))])
(.goto 1002003 [(some 0),(some 1)] [(gI 4),(gY 5),(gI 6),(gY 7),(.v (.bool true))]))
def b0K:MdO:=⟨1,1,0,[0,1],[(.sym 1),(vI 2),(.sym 3)],b7o,a5v⟩
def b7n:Sig:=⟨c8q,[(2,(.fp 51 0)),(7,(.d 0)),(13,(.d 4))],[(.cells [(.p 1 0)] none 0 none),(.cells [(.d 1),(.d 2),(.d 3)] none 0 none)]⟩
def a5u:Vt:=(.goto 0 [(some 0),(some 1),none] [(gI 0),(gY 1),(gI 2),(gY 3),(.ow (.slice none 0 0) none []),(.v (.bool true)),(.v (.int .i64 (0)))])
def a5x:MdO:=⟨2,3,1,[],[(.sym 4)],b7n,a5u⟩
def a5w:Sig:=⟨e0I,[(2,(.fp 51 0)),(15,(.d 0)),(16,(.d 4)),(18,(.own 2 5 6)),(19,(.fp 51 0))],[(.cells [(.p 1 0)] none 0 none),(.cells [(.d 1),(.d 2),(.d 3)] none 0 none),(.lst 5 6 b9q (some 46) 4)]⟩
def a5t:Vt:=(.fb 6
(.bin .add .i64 (vI 4) (.int .i64 (1))
(.goto 0 [(some 0),(some 1),(some 4)] [(gI 0),(gY 20),(gI 21),(gY 22),(.ow (.slice (some ⟨(.loc 4),0⟩) 1 1) none [[(gI 7),(gI 8),(gI 9),(gI 10),(gI 11),(gI 12),(gI 13),(gY 14),(gY 15),(gY 16),(gI 17),(gI 18),(gI 19)]]),(.v (.bool false)),(gI 23)]))
(.bin .add .i64 (vI 4) (.int .i64 (1))
(.goto 0 [(some 0),(some 1),(some 4)] [(gI 0),(gY 20),(gI 21),(gY 22),(.ow (.lsl 4 5 1) (some 5) [[(gI 7),(gI 8),(gI 9),(gI 10),(gI 11),(gI 12),(gI 13),(gY 14),(gY 15),(gY 16),(gI 17),(gI 18),(gI 19)]]),(.v (.bool false)),(gI 23)])))
def b0J:MdO:=⟨6,2,2,[0,1],[(.sym 1),(vI 2),(.sym 3)],a5w,a5t⟩
def lab:FnO:=⟨[(.p 0 0),(.d 3),(.fp 51 0)],c8p,[(.cells [(.p 1 0)] none 0 none),(.cells [(.d 0),(.d 1),(.d 2)] none 0 none)],[(.d (.l b9q))],a3u,[(.cells [(.p 1 0)] none 0 none),(.cells [(.d 1),(.d 2),(.d 3)] none 0 none)],[0],[(1,1),(2,3),(6,2)],d3l,[(0,d1U,c6y)],[(1001001,b0K),(1002003,a5x),(1006002,b0J)]⟩
def d4X:Vt:=(.goto 1001004 [(some 0),(some 1),(some 2)] [(gY 0),(gI 1),(gY 2)])
def b8p:Sig:=⟨a3u,[(0,(.p 0 0)),(2,(.p 2 0)),(7,(.p 1 0))],[(.cells [(.p 1 0)] none 0 none),(.cells [(.d 0),(.d 1),(.d 2)] none 0 none),(.cells [(.k (.string ⟨#[]⟩)),(.k (.int .i64 (0))),(.k (.int .i64 (0))),(.k (.int .i64 (0))),(.k (.int .i64 (0))),(.k (.int .i64 (0))),(.k (.int .i64 (0))),(.k (.int .i64 (0))),(.k (.int .i64 (0))),(.k (.int .i64 (0))),(.k (.slice none 0 0))] none 0 (some 40))]⟩
def b8f:Vt:=(.goto 1002004 [(some 0),(some 1),(some 2),(some 3)] [(gY 4),(gI 5),(gY 6),(gY 3)])
def b0d:MdO:=⟨1,4,3,[1],[(.sym 0),(vI 1),(.sym 2)],b8p,b8f⟩
def b8o:Sig:=⟨d6G,[(0,(.p 0 0)),(2,(.p 2 0)),(3,(.p 3 0)),(13,(.p 1 0))],[(.cells [(.p 1 0)] none 0 none),(.cells [(.d 0),(.d 1),(.d 2)] none 0 none),(.cells [(.k (.string ⟨#[]⟩)),(.k (.int .i64 (0))),(.k (.int .i64 (0))),(.k (.int .i64 (0))),(.k (.int .i64 (0))),(.k (.int .i64 (0))),(.k (.int .i64 (0))),(.k (.int .i64 (0))),(.k (.int .i64 (0))),(.k (.int .i64 (0))),(.k (.slice none 0 0))] none 0 (some 40)),(.cells [(.d 3),(.k (.int .i64 (0))),(.k (.int .i64 (0))),(.k (.int .i64 (0))),(.k (.int .i64 (0))),(.k (.int .i64 (0))),(.k (.int .i64 (0))),(.k (.int .i64 (0))),(.k (.int .i64 (0))),(.k (.int .i64 (0))),(.k (.slice none 0 0))] none 0 (some 40))]⟩
def b8e:Vt:=(.goto 1002005 [(some 0),(some 1),(some 2),(some 3)] [(gY 4),(gY 5),(gI 6),(gY 7),(gY 3)])
def a6J:MdO:=⟨2,4,4,[1],[(.sym 0),(vI 1),(.sym 2)],b8o,b8e⟩
def b8n:Sig:=⟨e0H,[(0,(.p 0 0)),(2,(.p 2 0)),(3,(.p 3 0)),(14,(.d 0))],[(.cells [(.p 1 0)] none 0 none),(.cells [(.d 1),(.d 2),(.d 3)] none 0 none),(.cells [(.k (.string ⟨#[]⟩)),(.k (.int .i64 (0))),(.k (.int .i64 (0))),(.k (.int .i64 (0))),(.k (.int .i64 (0))),(.k (.int .i64 (0))),(.k (.int .i64 (0))),(.k (.int .i64 (0))),(.k (.int .i64 (0))),(.k (.int .i64 (0))),(.k (.slice none 0 0))] none 0 (some 40)),(.cells [(.d 4),(.k (.int .i64 (0))),(.k (.int .i64 (0))),(.k (.int .i64 (0))),(.k (.int .i64 (0))),(.k (.int .i64 (0))),(.k (.int .i64 (0))),(.k (.int .i64 (0))),(.k (.int .i64 (0))),(.k (.int .i64 (0))),(.k (.slice none 0 0))] none 0 (some 40))]⟩
def b8d:Vt:=(.goto 1003001 [(some 0),(some 1),(some 2),(some 3)] [(gY 1),(gI 2),(gY 3),(gY 4)])
def a6I:MdO:=⟨2,5,1,[],[(.sym 0)],b8n,b8d⟩
def b8m:Sig:=⟨d6G,[(0,(.p 0 0)),(2,(.p 2 0)),(3,(.p 3 0)),(16,(.p 0 0))],[(.cells [(.p 1 0)] none 0 none),(.cells [(.d 0),(.d 1),(.d 2)] none 0 none),(.cells [(.k (.string ⟨#[]⟩)),(.k (.int .i64 (0))),(.k (.int .i64 (0))),(.k (.int .i64 (0))),(.k (.int .i64 (0))),(.k (.int .i64 (0))),(.k (.int .i64 (0))),(.k (.int .i64 (0))),(.k (.int .i64 (0))),(.k (.int .i64 (0))),(.k (.slice none 0 0))] none 0 (some 40)),(.cells [(.d 3),(.k (.int .i64 (0))),(.k (.int .i64 (0))),(.k (.int .i64 (0))),(.k (.int .i64 (0))),(.k (.int .i64 (0))),(.k (.int .i64 (0))),(.k (.int .i64 (0))),(.k (.int .i64 (0))),(.k (.int .i64 (0))),(.k (.slice none 0 0))] none 0 (some 40))]⟩
def b8c:Vt:=(.goto 1003003 [(some 0),(some 1),(some 2),(some 3)] [(gI 4),(gY 5),(gI 6),(gY 7),(gY 3)])
def b0c:MdO:=⟨3,1,0,[0,1],[(.sym 0),(vI 1),(.sym 2)],b8m,b8c⟩
def b8l:Sig:=⟨e0G,[(0,(.p 0 0)),(2,(.p 2 0)),(3,(.p 3 0)),(17,(.d 0)),(18,(.p 0 0))],[(.cells [(.p 1 0)] none 0 none),(.cells [(.d 1),(.d 2),(.d 3)] none 0 none),(.cells [(.k (.string ⟨#[]⟩)),(.k (.int .i64 (0))),(.k (.int .i64 (0))),(.k (.int .i64 (0))),(.k (.int .i64 (0))),(.k (.int .i64 (0))),(.k (.int .i64 (0))),(.k (.int .i64 (0))),(.k (.int .i64 (0))),(.k (.int .i64 (0))),(.k (.slice none 0 0))] none 0 (some 40)),(.cells [(.d 4),(.k (.int .i64 (0))),(.k (.int .i64 (0))),(.k (.int .i64 (0))),(.k (.int .i64 (0))),(.k (.int .i64 (0))),(.k (.int .i64 (0))),(.k (.int .i64 (0))),(.k (.int .i64 (0))),(.k (.int .i64 (0))),(.k (.slice none 0 0))] none 0 (some 40))]⟩
def b8b:Vt:=(.goto 1004001 [(some 0),(some 1),(some 2),(some 3)] [(gY 9),(gI 10),(gY 11),(gY 4),(gI 0),(gI 5),(gI 6),(gI 7),(gI 8)])
def b0b:MdO:=⟨3,3,2,[0,1],[(.sym 1),(vI 2),(.sym 3)],b8l,b8b⟩
def b8k:Sig:=⟨e0F,[(0,(.p 0 0)),(2,(.p 2 0)),(3,(.p 3 0)),(22,(.p 0 0))],[(.cells [(.p 1 0)] none 0 none),(.cells [(.d 0),(.d 1),(.d 2)] none 0 none),(.cells [(.k (.string ⟨#[]⟩)),(.k (.int .i64 (0))),(.k (.int .i64 (0))),(.k (.int .i64 (0))),(.k (.int .i64 (0))),(.k (.int .i64 (0))),(.k (.int .i64 (0))),(.k (.int .i64 (0))),(.k (.int .i64 (0))),(.k (.int .i64 (0))),(.k (.slice none 0 0))] none 0 (some 40)),(.cells [(.d 3),(.d 4),(.d 5),(.d 6),(.d 7),(.d 8),(.k (.int .i64 (0))),(.k (.int .i64 (0))),(.k (.int .i64 (0))),(.k (.int .i64 (0))),(.k (.slice none 0 0))] none 0 (some 40))]⟩
def b8a:Vt:=(.goto 1004003 [(some 0),(some 1),(some 2),(some 3)] [(gI 9),(gY 10),(gI 11),(gY 12),(gY 3),(gI 4),(gI 5),(gI 6),(gI 7),(gI 8)])
def b0a:MdO:=⟨4,1,0,[0,1],[(.sym 0),(vI 1),(.sym 2)],b8k,b8a⟩
def b8j:Sig:=⟨e0E,[(0,(.p 0 0)),(2,(.p 2 0)),(3,(.p 3 0)),(23,(.d 0)),(24,(.p 0 0))],[(.cells [(.p 1 0)] none 0 none),(.cells [(.d 1),(.d 2),(.d 3)] none 0 none),(.cells [(.k (.string ⟨#[]⟩)),(.k (.int .i64 (0))),(.k (.int .i64 (0))),(.k (.int .i64 (0))),(.k (.int .i64 (0))),(.k (.int .i64 (0))),(.k (.int .i64 (0))),(.k (.int .i64 (0))),(.k (.int .i64 (0))),(.k (.int .i64 (0))),(.k (.slice none 0 0))] none 0 (some 40)),(.cells [(.d 4),(.d 5),(.d 6),(.d 7),(.d 8),(.d 9),(.k (.int .i64 (0))),(.k (.int .i64 (0))),(.k (.int .i64 (0))),(.k (.int .i64 (0))),(.k (.slice none 0 0))] none 0 (some 40))]⟩
def b8Z:Vt:=(.goto 1004005 [(some 0),(some 1),(some 2),(some 3)] [(gI 0),(gI 10),(gY 11),(gI 12),(gY 13),(gY 4),(gI 5),(gI 6),(gI 7),(gI 8),(gI 9)])
def b0Z:MdO:=⟨4,3,0,[0,1],[(.sym 1),(vI 2),(.sym 3)],b8j,b8Z⟩
def b8i:Sig:=⟨e0D,[(0,(.p 0 0)),(2,(.p 2 0)),(3,(.p 3 0)),(23,(.d 0)),(25,(.d 1)),(26,(.p 0 0))],[(.cells [(.p 1 0)] none 0 none),(.cells [(.d 2),(.d 3),(.d 4)] none 0 none),(.cells [(.k (.string ⟨#[]⟩)),(.k (.int .i64 (0))),(.k (.int .i64 (0))),(.k (.int .i64 (0))),(.k (.int .i64 (0))),(.k (.int .i64 (0))),(.k (.int .i64 (0))),(.k (.int .i64 (0))),(.k (.int .i64 (0))),(.k (.int .i64 (0))),(.k (.slice none 0 0))] none 0 (some 40)),(.cells [(.d 5),(.d 6),(.d 7),(.d 8),(.d 9),(.d 10),(.k (.int .i64 (0))),(.k (.int .i64 (0))),(.k (.int .i64 (0))),(.k (.int .i64 (0))),(.k (.slice none 0 0))] none 0 (some 40))]⟩
def b8Y:Vt:=(.goto 1004007 [(some 0),(some 1),(some 2),(some 3)] [(gI 0),(gI 1),(gI 11),(gY 12),(gI 13),(gY 14),(gY 5),(gI 6),(gI 7),(gI 8),(gI 9),(gI 10)])
def b0Y:MdO:=⟨4,5,0,[0,1],[(.sym 2),(vI 3),(.sym 4)],b8i,b8Y⟩
def b8h:Sig:=⟨e0C,[(0,(.p 0 0)),(2,(.p 2 0)),(3,(.p 3 0)),(23,(.d 0)),(25,(.d 1)),(27,(.d 2)),(28,(.p 0 0))],[(.cells [(.p 1 0)] none 0 none),(.cells [(.d 3),(.d 4),(.d 5)] none 0 none),(.cells [(.k (.string ⟨#[]⟩)),(.k (.int .i64 (0))),(.k (.int .i64 (0))),(.k (.int .i64 (0))),(.k (.int .i64 (0))),(.k (.int .i64 (0))),(.k (.int .i64 (0))),(.k (.int .i64 (0))),(.k (.int .i64 (0))),(.k (.int .i64 (0))),(.k (.slice none 0 0))] none 0 (some 40)),(.cells [(.d 6),(.d 7),(.d 8),(.d 9),(.d 10),(.d 11),(.k (.int .i64 (0))),(.k (.int .i64 (0))),(.k (.int .i64 (0))),(.k (.int .i64 (0))),(.k (.slice none 0 0))] none 0 (some 40))]⟩
def b8X:Vt:=(.goto 1005003 [(some 0),(some 1),(some 2),(some 3)] [(gY 13),(gI 14),(gY 15),(gY 6),(gI 7),(gI 8),(gI 9),(gI 10),(gI 11),(gI 0),(gI 1),(gI 2),(gI 12)])
def b0X:MdO:=⟨4,7,0,[0,1],[(.sym 3),(vI 4),(.sym 5)],b8h,b8X⟩
def b8g:Sig:=⟨e0B,[(2,(.p 2 0)),(3,(.p 3 0)),(34,(.p 0 0)),(36,(.fp 51 0))],[(.cells [(.p 1 0)] none 0 none),(.cells [(.d 0),(.d 1),(.d 2)] none 0 none),(.cells [(.k (.string ⟨#[]⟩)),(.k (.int .i64 (0))),(.k (.int .i64 (0))),(.k (.int .i64 (0))),(.k (.int .i64 (0))),(.k (.int .i64 (0))),(.k (.int .i64 (0))),(.k (.int .i64 (0))),(.k (.int .i64 (0))),(.k (.int .i64 (0))),(.k (.slice none 0 0))] none 0 (some 40)),(.cells [(.d 3),(.d 4),(.d 5),(.d 6),(.d 7),(.d 8),(.d 9),(.d 10),(.d 11),(.d 12),(.k (.slice none 0 0))] none 0 (some 40))]⟩
def b8W:Vt:=(.ret [(gY 3),(gI 4),(gI 5),(gI 6),(gI 7),(gI 8),(gI 9),(gI 10),(gI 11),(gI 12),(gY 13),(gY 14),(gI 15),(gY 16)])
def b0W:MdO:=⟨5,3,5,[0,1],[(.sym 0),(vI 1),(.sym 2),(.int .i64 (4))],b8g,b8W⟩
def crd:FnO:=⟨[(.p 0 0)],a3u,[(.cells [(.p 1 0)] none 0 none),(.cells [(.d 0),(.d 1),(.d 2)] none 0 none)],[(.st c3Y)],a3u,[(.cells [(.p 1 0)] none 0 none),(.cells [(.d 11),(.d 12),(.d 13)] none 0 none)],[],[(1,4),(2,4),(2,5),(3,1),(3,3),(4,1),(4,3),(4,5),(4,7),(5,3)],d4X,[],[(1001004,b0d),(1002004,a6J),(1002005,a6I),(1003001,b0c),(1003003,b0b),(1004001,b0a),(1004003,b0Z),(1004005,b0Y),(1004007,b0X),(1005003,b0W)]⟩
def d3j:Vt:=(.goto 1001001 [(some 0),(some 1)] [(gI 3),(gY 0),(gI 1),(gY 2)])
def d1T:Sig:=⟨e0A,[(2,(.fp 30 0)),(8,(.own 2 4 5)),(15,(.d 0)),(16,(.d 6))],[(.cells [(.p 1 0)] none 0 none),(.cells [(.d 1),(.d 2),(.d 3)] none 0 none),(.lst 4 5 c3Y (some 40) 40)]⟩
def c6x:Vt:=(.fb 5
(.lss (vI 6) (vI 0)
(.goto 1006002 [(some 0),(some 1),none] [(gI 0),(gY 1),(gI 2),(gY 3),(gI 6),(.ow (.slice none 0 0) none []),(.v (.bool true))])
(.ret [(.v (.slice none 0 0)),(gY 1),(gI 2),(gY 3)]))
(.lss (vI 6) (vI 0)
(.goto 1006002 [(some 0),(some 1),(some 2)] [(gI 0),(gY 1),(gI 2),(gY 3),(gI 6),(.ow (.lsl 2 4 0) (some 4) []),(.v (.bool false))])
(.ret [(.app (.lsl 2 4 0) 4 []),(gY 1),(gI 2),(gY 3)])))
def b7m:Sig:=⟨d2Z,[(1,(.d 0)),(2,(.fp 30 0)),(9,(.p 0 0))],[(.cells [(.p 1 0)] none 0 none),(.cells [(.d 1),(.d 2),(.d 3)] none 0 none)]⟩
def a5q:Vt:=(.lss (vI 0) (vI 4)
(.goto 1002003 [(some 0),(some 1)] [(gI 4),(gY 5),(gI 6),(gY 7),(.v (.bool false))])
(.goto 1002003 [(some 0),(some 1)] [(gI 4),(gY 5),(gI 6),(gY 7),(.v (.bool true))]))
def b0H:MdO:=⟨1,1,0,[0,1],[(.sym 1),(vI 2),(.sym 3)],b7m,a5q⟩
def b7l:Sig:=⟨c8q,[(2,(.fp 30 0)),(7,(.d 0)),(13,(.d 4))],[(.cells [(.p 1 0)] none 0 none),(.cells [(.d 1),(.d 2),(.d 3)] none 0 none)]⟩
def a5p:Vt:=(.goto 0 [(some 0),(some 1),none] [(gI 0),(gY 1),(gI 2),(gY 3),(.ow (.slice none 0 0) none []),(.v (.bool true)),(.v (.int .i64 (0)))])
def a5s:MdO:=⟨2,3,1,[],[(.sym 4)],b7l,a5p⟩
def a5r:Sig:=⟨d9z,[(2,(.fp 30 0)),(15,(.d 0)),(16,(.d 4)),(18,(.own 2 5 6)),(19,(.fp 30 0))],[(.cells [(.p 1 0)] none 0 none),(.cells [(.d 1),(.d 2),(.d 3)] none 0 none),(.lst 5 6 c3Y (some 40) 40)]⟩
def a5o:Vt:=(.fb 6
(.bin .add .i64 (vI 4) (.int .i64 (1))
(.goto 0 [(some 0),(some 1),(some 4)] [(gI 0),(gY 18),(gI 19),(gY 20),(.ow (.slice (some ⟨(.loc 4),0⟩) 1 1) none [[(gY 7),(gI 8),(gI 9),(gI 10),(gI 11),(gI 12),(gI 13),(gI 14),(gI 15),(gI 16),(gY 17)]]),(.v (.bool false)),(gI 21)]))
(.bin .add .i64 (vI 4) (.int .i64 (1))
(.goto 0 [(some 0),(some 1),(some 4)] [(gI 0),(gY 18),(gI 19),(gY 20),(.ow (.lsl 4 5 1) (some 5) [[(gY 7),(gI 8),(gI 9),(gI 10),(gI 11),(gI 12),(gI 13),(gI 14),(gI 15),(gI 16),(gY 17)]]),(.v (.bool false)),(gI 21)])))
def b0G:MdO:=⟨6,2,2,[0,1],[(.sym 1),(vI 2),(.sym 3)],a5r,a5o⟩
def lcd:FnO:=⟨[(.p 0 0),(.d 3),(.fp 30 0)],c8p,[(.cells [(.p 1 0)] none 0 none),(.cells [(.d 0),(.d 1),(.d 2)] none 0 none)],[(.d (.l c3Y))],a3u,[(.cells [(.p 1 0)] none 0 none),(.cells [(.d 1),(.d 2),(.d 3)] none 0 none)],[0],[(1,1),(2,3),(6,2)],d3j,[(0,d1T,c6x)],[(1001001,b0H),(1002003,a5s),(1006002,b0G)]⟩
theorem e1O:b5t Try.prog (Cs []) (Ds []) Try.f81 lz=true:=by kernel_rfl
theorem d5i:a2H Try.prog (Cs []) (Dso []) Try.f48 wok=true:=by kernel_rfl
theorem d5m:a2H Try.prog (Cs []) (Dso []) Try.f32 wen=true:=by kernel_rfl
theorem d5k:a2H Try.prog (Cs []) (Dso [b8x]) Try.f82 win=true:=by kernel_rfl
theorem d5g:a2H Try.prog (Cs []) (Dso [b8x]) Try.f47 wtx=true:=by kernel_rfl
def e2Q:List Co:=[b8x,d8L,a5G]
theorem d6s:a2H Try.prog (Cs []) (Dso e2Q) Try.f46 num=true:=by kernel_rfl
def e2P:List Co:=[d4s,d8L,a5G]
theorem d5l:a2H Try.prog (Cs []) (Dso e2P) Try.f73 who=true:=by kernel_rfl
def b4Q:Co:=coF num 46 [] pN
def d7h:Co:=coF who 73 [] pI
theorem d6z:a2H Try.prog (Cs []) (Dso [b4Q]) Try.f49 mna=true:=by kernel_rfl
def d9g:Co:=coF mna 49 [] pM
theorem d7T:a2H Try.prog (Cs []) (Dso [b4Q,d7h]) Try.f72 ins=true:=by kernel_rfl
def d9k:Co:=coF ins 72 [] b4v
theorem d7E:a2H Try.prog (Cs []) (Dso [b4Q,a5G]) Try.f70 lin=true:=by kernel_rfl
def e3J:Co:=coF lin 70 [.i .i64 2] (pL 2 pN)
theorem d7H:a2H Try.prog (Cs []) (Dso [b4Q,a5G,d9k]) Try.f71 lco=true:=by kernel_rfl
def e3K:Co:=coF lco 71 [.i .i64 32] (pL 32 b4v)
def e2S:List Co:=[b4Q,a5G,d9g,e3J,e3K,d7h]
theorem d8Z:a2H Try.prog (Cs []) (Dso e2S) Try.f51 abi=true:=by kernel_rfl
def d9o:Co:=coF abi 51 [] pAb
theorem d7J:a2H Try.prog (Cs []) (Dso [b4Q,a5G,d9o]) Try.f50 lab=true:=by kernel_rfl
def e3L:Co:=coF lab 50 [.i .i64 4] (pL 4 pAb)
def e2R:List Co:=[b4Q,a5G,d9g,d4q,d8L,e3L]
theorem d7k:a2H Try.prog (Cs []) (Dso e2R) Try.f30 crd=true:=by kernel_rfl
def d9l:Co:=coF crd 30 [] pCd
theorem d7I:a2H Try.prog (Cs []) (Dso [b4Q,a5G,d9l]) Try.f29 lcd=true:=by kernel_rfl
def e4e:Co:=coF lcd 29 [.i .i64 40] (pL 40 pCd)
end
end Go.Proofs.Ytmmmknhdigapkaa.poolCut
