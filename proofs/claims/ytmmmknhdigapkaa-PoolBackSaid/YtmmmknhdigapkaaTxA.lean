/-
  Which cards and codes may be: cuts, trees of cases (printed by a program of ours).
-/
import Derived.Test.YtmmmknhdigapkaaProg
import Derived.Test.YtmmmknhdigapkaaEv9
import Derived.ProofKit
namespace Go.Proofs.Ytmmmknhdigapkaa.plq
open Go.Ev Go.RowKit
set_option linter.unusedVariables false
noncomputable section
theorem c9i:c9h Try.prog=true:=by kernel_rfl
theorem mixed:Try.prog.follows .mixedOrders=true:=by kernel_rfl
def si(i:Nat):VV:=.sint .i64 i
def a0V:Int×Int:=(-9223372036854775808,9223372036854775807)
def c2a(fs:List Fact)(a b:Nat):Bool:=fs.any fun f=>match f with
 |.bin .lss (.sint _ x) (.sint _ y) (.bool true)=>Nat.beq x a&&Nat.beq y b|_=>false
def d3v(iv:Ivs)(i:Nat)(c:Int):Bool:=decide ((a2C iv i).1≥c)
def a9e:VV:=.agg [.sym 0,si 1,si 2,si 3,si 4,si 5,si 6,si 7,si 8,si 9,.sym 1]
def d5A:List Fact:=[.len true (.sym 0) (si 10),.len false (.sym 1) (si 11)]
def e1p:List Fact:=[.at 13 (.sym 1) (si 12) ⟨.sym 30,0⟩,.bin .add (si 12) (.int .i64 1) (si 13),.len false (.sym 32) (si 22),.len false (.sym 33) (si 23)]
def tgF(iv:Ivs):List Fact:=(match d3v iv 22 1 with|true=>[.at 1 (.sym 32) (.int .i64 0) ⟨.sym 31,0⟩]|false=>[])++(match d3v iv 22 2 with|true=>[.at 1 (.sym 32) (.int .i64 1) ⟨.sym 31,1⟩]|false=>[])
def e0a(iv:Ivs):VV:=match d3v iv 21 1,decide ((a2C iv 21).2≤0)with|true,_=>.bool true|_,true=>.bool false|_,_=>.one
def d1k(iv:Ivs):List VV:=[sv iv .i64 14,si 15,si 16,si 17,si 18,si 19,si 20,e0a iv,.sym 32,.sym 33,si 24,si 25,si 26]
def d2A(x:List Fact)(iv:Ivs)(fs:List Fact):Env:=⟨fun _=>none,a2C iv,fs++(x++d5A),fun _=>none⟩
def c1V(x:List Fact)(iv:Ivs)(fs:List Fact):Env:=match c2a fs 12 11 with
 |true=>⟨fun _=>none,a2C iv,fs++(x++(d5A++(e1p++tgF iv))),fun i=>match Nat.beq i 30 with|true=>some (d1k iv)|false=>match Nat.beq i 31,d3v iv 22 1 with|true,true=>some (match d3v iv 22 2 with|true=>[si 27,si 28]|false=>[si 27])|_,_=>none⟩|false=>d2A x iv fs
def b7T(b:Bool):List Fact:=[.bin .eql (.sym 0) (.string .empty) (.bool b),.bin .neq (.sym 0) (.string .empty) (.bool (!b))]
def ivE:Ivs:=[a0V,a0V,a0V,a0V,a0V,a0V,a0V,a0V,a0V,a0V,(0,9223372036854775807),(0,9223372036854775807)]
def codeF:List Fact:=[.len false (.sym 0) (si 2)]
def d7n:List Fact:=[.at 3 (.sym 0) (si 3) ⟨.sym 5,0⟩,.bin .add (si 3) (.int .i64 1) (si 4)]
def e2P(iv:Ivs)(fs:List Fact):Env:=⟨fun _=>none,a2C iv,fs++codeF,fun _=>none⟩
def c8P(iv:Ivs)(fs:List Fact):Env:=match c2a fs 3 2 with
 |true=>⟨fun _=>none,a2C iv,fs++(codeF++d7n),fun i=>match Nat.beq i 5 with|true=>some [sv iv .i64 6,si 7,si 8]|false=>none⟩|false=>e2P iv fs
theorem b3C(x:List Fact)(iv:Ivs)(fs:List Fact):(c1V x iv fs).blk=fun _=>none:=by unfold c1V;split<;>rfl
theorem c8O(iv:Ivs)(fs:List Fact):(c8P iv fs).blk=fun _=>none:=by unfold c8P;split<;>rfl
def d7q:Ivs:=[a0V,a0V,a0V,a0V,a0V,a0V,a0V,a0V,a0V,a0V,(0,9223372036854775807),(0,9223372036854775807)]
def z0:TrX Leaf:=.leaf (.goto 1 [(.int .i64 (0))])
def e3J:TrX Leaf:=z0
def z1:VV:=.agg [(.sym 0),(.sint .i64 1),(.sint .i64 2),(.sint .i64 3),(.sint .i64 4),(.sint .i64 5),(.sint .i64 6),(.sint .i64 7),(.sint .i64 8),(.sint .i64 9),(.sym 1)]
def d9k:CutP:=⟨none,(.nd .lf (some z1) .lf),.lf,0,10,[],d7q,(d2A []),e3J⟩
def c7u:Ivs:=[a0V,a0V,a0V,a0V,a0V,a0V,a0V,a0V,a0V,a0V,(0,9223372036854775807),(0,9223372036854775807),(0,9223372036854775807),a0V,a0V,a0V,a0V,a0V,a0V,a0V,a0V,(0,1),(0,9223372036854775807),(0,9223372036854775807),a0V,a0V,a0V,a0V,a0V,(0,1000)]
def z2:TrX Leaf:=.leaf (.goto 1 [(.sint .i64 13)])
def z3:TrX Leaf:=.leaf (.ret (.bool true))
def d7p:TrX Leaf:=(.cut 22 (2) (.cut 23 (32) z2 z3) z3)
def z4:TrX Leaf:=.leaf (.ret (.bool false))
def d7o:TrX Leaf:=(.cut 10 (16) (.cut 11 (4) z4 z3) z3)
def e3I:TrX Leaf:=.rel .i64 12 11 d7p d7o
def z5:TT VV:=.nd .lf (some .any) .lf
def z6:TT VV:=.nd z5 (some .any) .lf
def z7:TT VV:=.nd z5 (some .any) z5
def z8:TT VV:=.nd z7 (some .any) z7
def z9:TT VO:=.nd .lf (some (.cells [(.sym 0),(.sint .i64 1),(.sint .i64 2),(.sint .i64 3),(.sint .i64 4),(.sint .i64 5),(.sint .i64 6),(.sint .i64 7),(.sint .i64 8),(.sint .i64 9),(.sym 1)] none 0 none)) .lf
def d5Z:CutP:=⟨some 0,(.nd (.nd (.nd (.nd z6 (some (.sint .i64 11)) z5) (some .any) z7) (some (.ptr (some ⟨(.loc 0),0⟩))) z8) (some .any) (.nd (.nd (.nd z6 (some (.sint .i64 12)) z5) (some .any) z7) (some (.bool false)) (.nd z7 (some (.sym 1)) z7))),z9,1,12,[(.sint .i64 12)],c7u,(c1V []),e3I⟩
def d9l:List KE:=[]
def clC:List CutP:=[d9k,d5Z]
def d1f:Code:=match Try.f40.body with|some c=>c|none=>.skip
def d9j(c:CutP):Ivs→List Fact→Leaf→Bool:=b3a Try.prog (b6m Try.prog d9l 20000) Try.f40.ntmps [0] 1000 Try.f40.results.toList d1f clC c
def c1L:Ivs:=[a0V,a0V,a0V,a0V,a0V,a0V,a0V,a0V,a0V,a0V,(0,9223372036854775807),(0,9223372036854775807)]
def d8F:TrX Leaf:=z4
def d1p:TrX Leaf:=(.cut 2 (-1) z4 (.cut 2 (20) (.cut 3 (-1) z4 (.cut 3 (20) (.cut 4 (-1) z4 (.cut 4 (20) (.cut 5 (-1) z4 (.cut 5 (20) (.cut 6 (-1) z4 (.cut 6 (3) (.cut 7 (-1) z4 (.cut 7 (0) (.cut 8 (-1) z4 (.cut 8 (0) (.cut 9 (-1) z4 (.cut 9 (0) (.cut 2 (0) (.cut 3 (0) (.cut 4 (0) (.cut 5 (0) z3 z4) z4) z4) z4) z4)) z4)) z4)) z4)) z4)) z4)) z4)) z4))
def c8D:TrX Leaf:=(.cut 2 (-1) z4 (.cut 2 (20) (.cut 3 (-1) z4 (.cut 3 (20) (.cut 4 (-1) z4 (.cut 4 (20) (.cut 5 (-1) z4 (.cut 5 (20) (.cut 6 (-1) z4 (.cut 6 (0) (.cut 7 (-1) z4 (.cut 7 (15) (.cut 8 (-1) z4 (.cut 8 (15) (.cut 9 (-1) z4 (.cut 9 (127) (.cut 2 (0) (.cut 3 (0) (.cut 4 (0) (.cut 5 (0) z3 z3) z3) z3) z3) z4)) z4)) z4)) z4)) z4)) z4)) z4)) z4))
def z10:TrX Leaf:=.cut 9 (0) z3 (.cut 9 (63) z4 z3)
def z11:TrX Leaf:=.cut 2 (-1) z4 (.cut 2 (20) (.cut 3 (-1) z4 (.cut 3 (20) (.cut 4 (-1) z4 (.cut 4 (20) (.cut 5 (-1) z4 (.cut 5 (20) (.cut 6 (-1) z4 (.cut 6 (0) (.cut 7 (-1) z4 (.cut 7 (0) (.cut 8 (-1) z4 (.cut 8 (0) (.cut 9 (-1) z4 (.cut 9 (64) (.cut 2 (0) (.cut 3 (0) (.cut 4 (0) (.cut 5 (0) z10 z10) z10) z10) z10) z4)) z4)) z4)) z4)) z4)) z4)) z4)) z4)
def c3D:TrX Leaf:=z11
def c3C:TrX Leaf:=(.cut 1 (4) z11 z4)
def c8C:TrX Leaf:=.cut 1 (3) c3D c3C
def d1o:TrX Leaf:=.cut 1 (2) c8D c8C
def d8E:TrX Leaf:=.cut 1 (1) d1p d1o
def d8G:TrX Leaf:=.cut 1 (0) d8F d8E
def c4s:CutP:=⟨none,(.nd .lf (some z1) .lf),.lf,0,10,[],c1L,(d2A []),d8G⟩
def d9p:List KE:=[]
def cbC:List CutP:=[c4s]
def d1q:Code:=match Try.f41.body with|some c=>c|none=>.skip
def d0W(c:CutP):Ivs→List Fact→Leaf→Bool:=b3a Try.prog (b6m Try.prog d9p 20000) Try.f41.ntmps [] 1000 Try.f41.results.toList d1q cbC c
def d6B:Ivs:=[a0V,a0V,a0V,a0V,a0V,a0V,a0V,a0V,a0V,a0V,(0,9223372036854775807),(0,9223372036854775807)]
def z12:TrX Leaf:=.leaf (.ret (.int .i64 (2)))
def e2k:TrX Leaf:=(.cut 0 (-1) z12 (.cut 0 (40) (.leaf (.ret (.int .i64 (3)))) z12))
def z13:TT VV:=.nd .lf (some (.sint .i64 0)) .lf
def z14:TT VV:=.nd z13 (some z1) .lf
def d9C:CutP:=⟨none,z14,.lf,0,10,[],d6B,(d2A []),e2k⟩
def d6D:List KE:=[⟨40,[z1],[],(.bool true)⟩]
def vaC:List CutP:=[d9C]
def d0z:Code:=match Try.f23.body with|some c=>c|none=>.skip
def e3h(c:CutP):Ivs→List Fact→Leaf→Bool:=b3a Try.prog (b6m Try.prog d6D 20000) Try.f23.ntmps [0] 1000 Try.f23.results.toList d0z vaC c
def d5y:Ivs:=[a0V,a0V,a0V,a0V,a0V,a0V,a0V,a0V,a0V,a0V,(0,9223372036854775807),(0,9223372036854775807)]
def z15:TrX Leaf:=.leaf (.ret (.int .i64 (10)))
def z16:TrX Leaf:=.cut 0 (-1) z12 (.cut 0 (40) z15 z12)
def e2j:TrX Leaf:=z16
def d9B:CutP:=⟨none,z14,.lf,0,10,[],d5y,(d2A (b7T true)),e2j⟩
def d6A:List KE:=[⟨40,[z1],[],(.bool false)⟩]
def vbC:List CutP:=[d9B]
def d0y:Code:=match Try.f23.body with|some c=>c|none=>.skip
def e3f(c:CutP):Ivs→List Fact→Leaf→Bool:=b3a Try.prog (b6m Try.prog d6A 20000) Try.f23.ntmps [0] 1000 Try.f23.results.toList d0y vbC c
def d5v:Ivs:=[a0V,a0V,a0V,a0V,a0V,a0V,a0V,a0V,a0V,a0V,(0,9223372036854775807),(0,9223372036854775807)]
def e2i:TrX Leaf:=z16
def d9A:CutP:=⟨none,z14,.lf,0,10,[],d5v,(d2A (b7T false)),e2i⟩
def d5x:List KE:=[⟨40,[z1],[],(.bool false)⟩,⟨41,[z1],[],(.bool false)⟩]
def vcC:List CutP:=[d9A]
def d0x:Code:=match Try.f23.body with|some c=>c|none=>.skip
def e3d(c:CutP):Ivs→List Fact→Leaf→Bool:=b3a Try.prog (b6m Try.prog d5x 20000) Try.f23.ntmps [0] 1000 Try.f23.results.toList d0x vcC c
def c3d:Ivs:=[a0V,a0V,a0V,a0V,a0V,a0V,a0V,a0V,a0V,a0V,(0,9223372036854775807),(0,9223372036854775807)]
def d2N:TrX Leaf:=z12
def d2M:TrX Leaf:=(.cut 0 (40) (.cut 1 (2) z0 (.cut 1 (3) (.leaf (.goto 2 [(.int .i64 (0))])) z0)) z12)
def d8z:TrX Leaf:=.cut 0 (-1) d2N d2M
def d0v:CutP:=⟨none,z14,.lf,0,10,[],c3d,(d2A (b7T false)),d8z⟩
def a2U:Ivs:=[a0V,a0V,a0V,a0V,a0V,a0V,a0V,a0V,a0V,a0V,(0,9223372036854775807),(0,9223372036854775807),(0,9223372036854775807),a0V,a0V,a0V,a0V,a0V,a0V,a0V,a0V,(0,1),(0,2),(0,32),a0V,a0V,a0V,a0V,a0V,(0,1000)]
def c1d:TrX Leaf:=z15
def b3h:TrX Leaf:=z15
def z17:TrX Leaf:=.cut 29 (0) z2 z15
def z18:TrX Leaf:=.cut 15 (-1) z15 (.cut 15 (0) (.cut 16 (-1) z15 (.cut 16 (0) (.cut 24 (-1) z15 (.cut 24 (0) (.cut 25 (-1) z15 (.cut 25 (0) (.cut 26 (-1) z15 (.cut 26 (0) (.cut 17 (-1) z15 (.cut 17 (20) (.cut 18 (-1) z15 (.cut 18 (20) (.cut 19 (-1) z15 (.cut 19 (20) (.cut 20 (-1) z15 (.cut 20 (20) z17 z15)) z15)) z15)) z15)) z15)) z15)) z15)) z15)) z15)
def b1e:TrX Leaf:=z18
def a9o:TrX Leaf:=(.cut 17 (-1) z15 (.cut 17 (0) (.cut 18 (-1) z15 (.cut 18 (0) (.cut 19 (-1) z15 (.cut 19 (0) (.cut 20 (-1) z15 (.cut 20 (0) (.cut 24 (-1) z15 (.cut 24 (0) (.cut 25 (-1) z15 (.cut 25 (0) (.cut 26 (-1) z15 (.cut 26 (0) (.cut 15 (0) z15 (.cut 15 (6) (.cut 16 (-1) z15 (.cut 16 (2) z17 z15)) z15)) z15)) z15)) z15)) z15)) z15)) z15)) z15))
def z19:TrX Leaf:=.cut 25 (0) z15 (.cut 25 (127) (.cut 26 (-1) z15 (.cut 26 (0) z2 z15)) z15)
def a7u:TrX Leaf:=(.cut 17 (-1) z15 (.cut 17 (0) (.cut 18 (-1) z15 (.cut 18 (0) (.cut 19 (-1) z15 (.cut 19 (0) (.cut 20 (-1) z15 (.cut 20 (0) (.cut 23 (0) (.cut 15 (-1) z15 (.cut 15 (0) (.cut 16 (-1) z15 (.cut 16 (3) (.cut 24 (0) z15 (.cut 24 (1) z19 (.cut 24 (2) z19 (.cut 24 (3) (.cut 25 (-1) z15 (.cut 25 (15) (.cut 26 (-1) z15 (.cut 26 (15) z2 z15)) z15)) (.cut 24 (4) (.cut 25 (-16) z15 (.cut 25 (15) (.cut 26 (-16) z15 (.cut 26 (15) z2 z15)) z15)) z15))))) z15)) z15)) z15) z15)) z15)) z15)) z15))
def z20:TrX Leaf:=.cut 16 (-1) z15 (.cut 16 (1) (.cut 25 (-1) z15 (.cut 25 (0) z2 z15)) z15)
def a7t:TrX Leaf:=(.cut 17 (-1) z15 (.cut 17 (0) (.cut 18 (-1) z15 (.cut 18 (0) (.cut 19 (-1) z15 (.cut 19 (0) (.cut 20 (-1) z15 (.cut 20 (0) (.cut 23 (0) (.cut 24 (-1) z15 (.cut 24 (0) (.cut 26 (-1) z15 (.cut 26 (0) (.cut 15 (0) z15 (.cut 15 (1) (.cut 16 (-1) z15 (.cut 16 (0) (.cut 25 (0) z15 (.cut 25 (999) z2 z15)) z15)) (.cut 15 (2) z20 (.cut 15 (3) (.cut 16 (-1) z15 (.cut 16 (0) (.cut 25 (-1) z15 (.cut 25 (999) z2 z15)) z15)) (.cut 15 (4) z20 z15))))) z15)) z15)) z15) z15)) z15)) z15)) z15))
def a9n:TrX Leaf:=.cut 14 (4) a7u a7t
def b1d:TrX Leaf:=.cut 14 (3) a9o a9n
def b3g:TrX Leaf:=.cut 14 (2) b1e b1d
def b6R:TrX Leaf:=.cut 14 (1) b3h b3g
def b6Q:TrX Leaf:=z15
def c1c:TrX Leaf:=.cut 14 (5) b6R b6Q
def c5D:TrX Leaf:=.cut 14 (0) c1d c1c
def z21:TrX Leaf:=.cut 15 (-1) z15 (.cut 15 (0) (.cut 16 (-1) z15 (.cut 16 (0) (.cut 24 (-1) z15 (.cut 24 (0) (.cut 25 (-1) z15 (.cut 25 (0) (.cut 26 (-1) z15 (.cut 26 (0) (.cut 17 (-1) z15 (.cut 17 (20) (.cut 18 (-1) z15 (.cut 18 (20) (.cut 19 (-1) z15 (.cut 19 (20) (.cut 20 (-1) z15 (.cut 20 (20) (.cut 27 (0) z15 (.cut 27 (6) z17 z15)) z15)) z15)) z15)) z15)) z15)) z15)) z15)) z15)) z15)
def z22:TrX Leaf:=.cut 17 (-1) z15 (.cut 17 (0) (.cut 18 (-1) z15 (.cut 18 (0) (.cut 19 (-1) z15 (.cut 19 (0) (.cut 20 (-1) z15 (.cut 20 (0) z15 z15)) z15)) z15)) z15)
def z23:TrX Leaf:=.cut 14 (3) (.cut 17 (-1) z15 (.cut 17 (0) (.cut 18 (-1) z15 (.cut 18 (0) (.cut 19 (-1) z15 (.cut 19 (0) (.cut 20 (-1) z15 (.cut 20 (0) (.cut 24 (-1) z15 (.cut 24 (0) (.cut 25 (-1) z15 (.cut 25 (0) (.cut 26 (-1) z15 (.cut 26 (0) z15 z15)) z15)) z15)) z15)) z15)) z15)) z15)) (.cut 14 (4) z22 z22)
def c1b:TrX Leaf:=(.cut 14 (0) z15 (.cut 14 (5) (.cut 14 (1) z15 (.cut 14 (2) z21 z23)) z15))
def z24:TrX Leaf:=.cut 15 (-1) z15 (.cut 15 (0) (.cut 16 (-1) z15 (.cut 16 (0) (.cut 24 (-1) z15 (.cut 24 (0) (.cut 25 (-1) z15 (.cut 25 (0) (.cut 26 (-1) z15 (.cut 26 (0) (.cut 17 (-1) z15 (.cut 17 (20) (.cut 18 (-1) z15 (.cut 18 (20) (.cut 19 (-1) z15 (.cut 19 (20) (.cut 20 (-1) z15 (.cut 20 (20) (.cut 27 (0) z15 (.cut 27 (6) (.cut 28 (0) z15 (.cut 28 (6) z17 z15)) z15)) z15)) z15)) z15)) z15)) z15)) z15)) z15)) z15)) z15)
def c1a:TrX Leaf:=(.cut 14 (0) z15 (.cut 14 (5) (.cut 14 (1) z15 (.cut 14 (2) z24 z23)) z15))
def c5C:TrX Leaf:=.cut 22 (1) c1b c1a
def d0u:TrX Leaf:=.cut 22 (0) c5D c5C
def z25:TrX Leaf:=.cut 14 (3) z22 (.cut 14 (4) z22 z22)
def c5B:TrX Leaf:=(.cut 14 (0) z15 (.cut 14 (5) (.cut 14 (1) z15 (.cut 14 (2) z18 z25)) z15))
def c1Z:TrX Leaf:=(.cut 14 (0) z15 (.cut 14 (5) (.cut 14 (1) z15 (.cut 14 (2) z21 z25)) z15))
def c1Y:TrX Leaf:=(.cut 14 (0) z15 (.cut 14 (5) (.cut 14 (1) z15 (.cut 14 (2) z24 z25)) z15))
def c5A:TrX Leaf:=.cut 22 (1) c1Z c1Y
def d0t:TrX Leaf:=.cut 22 (0) c5B c5A
def c3a:TrX Leaf:=.cut 21 (0) d0u d0t
def z26:TrX Leaf:=.leaf (.ret (.int .i64 (0)))
def d5q:TrX Leaf:=z26
def e2h:TrX Leaf:=.rel .i64 12 11 c3a d5q
def z27:TT VV:=.nd z6 (some .any) z5
def z28:TT VV:=.nd z27 (some .any) z7
def z29:TT VV:=.nd (.nd (.nd (.nd z5 (some (.sint .i64 11)) .lf) (some .any) z5) (some .any) z7) (some .any) z28
def z30:TT VV:=.nd (.nd (.nd (.nd (.nd z5 (some (.sint .i64 12)) .lf) (some .any) z5) (some .any) z7) (some (.int .i64 (0))) z28) (some (.ptr (some ⟨(.loc 0),0⟩))) (.nd z28 (some .any) (.nd z7 (some .any) (.nd z5 (some (.sym 1)) z5)))
def a8v:CutP:=⟨some 0,(.nd (.nd z29 (some (.sint .i64 0)) (.nd z28 (some (.bool false)) z8)) (some .any) z30),z9,1,12,[(.sint .i64 12)],a2U,(c1V (b7T false)),e2h⟩
def c8r:Ivs:=[a0V,a0V,a0V,a0V,a0V,a0V,a0V,a0V,a0V,a0V,(0,9223372036854775807),(0,9223372036854775807),(0,9223372036854775807),a0V,a0V,a0V,a0V,a0V,a0V,a0V,a0V,(0,1),(0,2),(0,32),a0V,a0V,a0V,a0V,a0V,(0,1000)]
def z31:TrX Leaf:=.cut 29 (0) (.leaf (.goto 2 [(.sint .i64 13)])) z15
def z32:TrX Leaf:=.cut 14 (0) z15 (.cut 14 (5) (.cut 14 (1) z22 z15) z15)
def c3Z:TrX Leaf:=(.cut 21 (0) (.cut 22 (0) (.cut 14 (0) z15 (.cut 14 (5) (.cut 14 (1) (.cut 17 (-1) z15 (.cut 17 (0) (.cut 18 (-1) z15 (.cut 18 (0) (.cut 19 (-1) z15 (.cut 19 (0) (.cut 20 (-1) z15 (.cut 20 (0) (.cut 15 (-1) z15 (.cut 15 (0) (.cut 16 (-1) z15 (.cut 16 (0) (.cut 24 (-1) z15 (.cut 24 (0) (.cut 25 (-1) z15 (.cut 25 (0) (.cut 26 (-1) z15 (.cut 26 (0) z31 z15)) z15)) z15)) z15)) z15)) z15)) z15)) z15)) z15)) z15) z15)) (.cut 22 (1) (.cut 14 (0) z15 (.cut 14 (5) (.cut 14 (1) (.cut 17 (-1) z15 (.cut 17 (0) (.cut 18 (-1) z15 (.cut 18 (0) (.cut 19 (-1) z15 (.cut 19 (0) (.cut 20 (-1) z15 (.cut 20 (0) (.cut 15 (-1) z15 (.cut 15 (0) (.cut 16 (-1) z15 (.cut 16 (0) (.cut 24 (-1) z15 (.cut 24 (0) (.cut 25 (-1) z15 (.cut 25 (0) (.cut 26 (-1) z15 (.cut 26 (0) (.cut 27 (0) z15 (.cut 27 (6) z31 z15)) z15)) z15)) z15)) z15)) z15)) z15)) z15)) z15)) z15)) z15) z15)) (.cut 14 (0) z15 (.cut 14 (5) (.cut 14 (1) (.cut 17 (-1) z15 (.cut 17 (0) (.cut 18 (-1) z15 (.cut 18 (0) (.cut 19 (-1) z15 (.cut 19 (0) (.cut 20 (-1) z15 (.cut 20 (0) (.cut 15 (-1) z15 (.cut 15 (0) (.cut 16 (-1) z15 (.cut 16 (0) (.cut 24 (-1) z15 (.cut 24 (0) (.cut 25 (-1) z15 (.cut 25 (0) (.cut 26 (-1) z15 (.cut 26 (0) (.cut 27 (0) z15 (.cut 27 (6) (.cut 28 (0) z15 (.cut 28 (6) z31 z15)) z15)) z15)) z15)) z15)) z15)) z15)) z15)) z15)) z15)) z15)) z15) z15)))) (.cut 22 (0) z32 (.cut 22 (1) z32 z32)))
def d2L:TrX Leaf:=(.cut 11 (0) z15 (.cut 11 (1) z26 z15))
def e2g:TrX Leaf:=.rel .i64 12 11 c3Z d2L
def d5M:CutP:=⟨some 0,(.nd (.nd z29 (some (.sint .i64 0)) (.nd z28 (some (.bool true)) z8)) (some .any) z30),z9,1,12,[(.sint .i64 12)],c8r,(c1V (b7T false)),e2g⟩
def d5u:List KE:=[⟨40,[z1],[],(.bool false)⟩,⟨41,[z1],[],(.bool true)⟩,⟨83,[(.sym 33),(.sint .i64 22),(.sint .i64 0)],[],(.sint .i64 29)⟩]
def vdC:List CutP:=[d0v,a8v,d5M]
def d0w:Code:=match Try.f23.body with|some c=>c|none=>.skip
def a7M(c:CutP):Ivs→List Fact→Leaf→Bool:=b3a Try.prog (b6m Try.prog d5u 20000) Try.f23.ntmps [0] 1000 Try.f23.results.toList d0w vdC c
def d0V:Ivs:=[a0V,a0V,(0,9223372036854775807)]
def d8A:TrX Leaf:=z12
def d7z:TrX Leaf:=(.cut 0 (2) (.cut 1 (-1) z12 (.cut 1 (40) (.cut 2 (32) z0 (.leaf (.ret (.int .i64 (3))))) z12)) z12)
def e3Q:TrX Leaf:=.cut 0 (-1) d8A d7z
def d5a:CutP:=⟨none,(.nd z13 (some (.sym 0)) (.nd .lf (some (.sint .i64 1)) .lf)),.lf,0,10,[],d0V,e2P,e3Q⟩
def a9d:Ivs:=[(0,2),(0,40),(0,32),(0,32),(1,33),a0V,a0V,a0V,a0V]
def z33:TrX Leaf:=.leaf (.ret (.int .i64 (9)))
def d1m:TrX Leaf:=z33
def z34:TrX Leaf:=.leaf (.goto 1 [(.sint .i64 4)])
def z35:TrX Leaf:=.cut 8 (-1) z33 (.cut 8 (0) z34 z33)
def c3B:TrX Leaf:=(.cut 7 (-1000) z33 (.cut 7 (999) z35 z33))
def z36:TrX Leaf:=.cut 7 (-1) z33 (.cut 7 (0) z35 z33)
def b8o:TrX Leaf:=z36
def b4T:TrX Leaf:=z36
def b2v:TrX Leaf:=z36
def b0d:TrX Leaf:=z36
def z37:TrX Leaf:=.cut 7 (4) z33 (.cut 7 (7) z35 z33)
def a8k:TrX Leaf:=z37
def a7L:TrX Leaf:=(.cut 7 (-1) z33 (.rel .i64 7 0 z35 (.cut 7 (2) z33 (.cut 7 (3) z35 z33))))
def z38:TrX Leaf:=.cut 7 (-1) z33 (.rel .i64 2 7 z33 z35)
def a6I:TrX Leaf:=z38
def a4y:TrX Leaf:=z38
def a4R:TrX Leaf:=(.cut 7 (-1) z33 (.rel .i64 7 0 z35 (.cut 7 (1) z33 (.cut 7 (7) z35 z33))))
def z39:TrX Leaf:=.cut 7 (-1) z33 (.rel .i64 7 0 z35 (.cut 7 (2) z33 (.cut 7 (3) z35 (.cut 7 (4) z35 z33))))
def a3t:TrX Leaf:=z39
def a3e:TrX Leaf:=z39
def z40:TrX Leaf:=.cut 7 (-1) z33 (.rel .i64 7 0 z35 (.cut 7 (1) z33 (.cut 7 (2) z35 z37)))
def a3G:TrX Leaf:=z40
def a2u:TrX Leaf:=z40
def z41:TrX Leaf:=.cut 8 (0) z33 (.cut 8 (127) z34 z33)
def z42:TrX Leaf:=.cut 8 (-1) z33 (.rel .i64 8 1 z34 z33)
def a2t:TrX Leaf:=(.cut 6 (15) z40 (.cut 6 (16) z40 (.cut 6 (17) (.cut 7 (-1) z33 (.rel .i64 7 0 z41 (.cut 7 (1) z33 (.cut 7 (2) z41 (.cut 7 (4) z33 (.cut 7 (7) z41 z33)))))) (.cut 6 (18) z40 (.cut 6 (19) z40 (.cut 6 (20) (.cut 7 (-1) z33 (.rel .i64 7 0 z35 z33)) (.cut 6 (21) (.cut 7 (-1) z33 (.rel .i64 7 0 z42 (.cut 7 (2) z33 (.cut 7 (3) z42 (.cut 7 (4) z42 z33))))) (.cut 6 (22) (.cut 7 (-1) z33 (.cut 7 (3) z35 z33)) (.cut 6 (23) (.cut 7 (0) z33 (.cut 7 (999) z35 z33)) z36)))))))))
def a3F:TrX Leaf:=.cut 6 (14) a2u a2t
def a3d:TrX Leaf:=.cut 6 (13) a3G a3F
def a3s:TrX Leaf:=.cut 6 (12) a3e a3d
def a4Q:TrX Leaf:=.cut 6 (11) a3t a3s
def a4x:TrX Leaf:=.cut 6 (10) a4R a4Q
def a6H:TrX Leaf:=.cut 6 (9) a4y a4x
def a7K:TrX Leaf:=.cut 6 (8) a6I a6H
def a8j:TrX Leaf:=.cut 6 (7) a7L a7K
def b0c:TrX Leaf:=.cut 6 (6) a8k a8j
def b2u:TrX Leaf:=.cut 6 (5) b0d b0c
def b4S:TrX Leaf:=.cut 6 (4) b2v b2u
def b8n:TrX Leaf:=.cut 6 (3) b4T b4S
def c3A:TrX Leaf:=.cut 6 (2) b8o b8n
def c7z:TrX Leaf:=.cut 6 (1) c3B c3A
def c7y:TrX Leaf:=z33
def d1l:TrX Leaf:=.cut 6 (24) c7z c7y
def b3b:TrX Leaf:=.cut 6 (0) d1m d1l
def d7y:TrX Leaf:=z26
def e3P:TrX Leaf:=.rel .i64 3 2 b3b d7y
def z43:TT VO:=.nd .lf (some (.cells [(.int .i64 (4))] none 0 none)) .lf
def z44:TT VO:=.nd .lf (some (.cells [(.int .i64 (2))] none 0 none)) .lf
def z45:TT VO:=.nd .lf (some (.cells [(.int .i64 (1))] none 0 none)) .lf
def a5F:CutP:=⟨some 0,(.nd (.nd (.nd (.nd z27 (some (.ptr (some ⟨(.loc 0),0⟩))) z27) (some .any) z28) (some .any) (.nd (.nd z27 (some .any) z27) (some .any) (.nd (.nd (.nd z5 (some (.sint .i64 2)) .lf) (some .any) z5) (some .any) z7))) (some .any) (.nd (.nd (.nd z27 (some (.ptr (some ⟨(.loc 1),0⟩))) z27) (some .any) (.nd (.nd (.nd z5 (some (.sym 0)) .lf) (some .any) z5) (some .any) z7)) (some .any) (.nd (.nd z27 (some .any) z27) (some (.int .i64 (0))) (.nd (.nd (.nd z5 (some (.sint .i64 3)) .lf) (some .any) z5) (some .any) z7)))),(.nd (.nd (.nd (.nd (.nd .lf (some (.cells [(.func (.func 92) [] []),(.func (.func 95) [] [(.ptr (some ⟨(.loc 8),0⟩)),(.ptr (some ⟨(.loc 9),0⟩))]),(.func (.func 95) [] [(.ptr (some ⟨(.loc 16),0⟩)),(.ptr (some ⟨(.loc 17),0⟩))])] none 0 none)) .lf) (some (.cells [(.func (.func 92) [] []),(.func (.func 95) [] [(.ptr (some ⟨(.loc 8),0⟩)),(.ptr (some ⟨(.loc 9),0⟩))])] none 0 none)) (.nd .lf (some (.cells [(.int .i64 (127))] none 0 none)) .lf)) (some (.cells [(.int .i64 (999))] none 0 none)) (.nd (.nd .lf (some (.cells [(.func (.func 92) [] []),(.func (.func 95) [] [(.ptr (some ⟨(.loc 20),0⟩)),(.ptr (some ⟨(.loc 21),0⟩))]),(.func (.func 95) [] [(.ptr (some ⟨(.loc 4),0⟩)),(.ptr (some ⟨(.loc 5),0⟩))])] none 0 none)) .lf) (some (.cells [(.func (.func 92) [] []),(.func (.func 95) [] [(.ptr (some ⟨(.loc 12),0⟩)),(.ptr (some ⟨(.loc 13),0⟩))])] none 0 none)) (.nd .lf (some (.cells [(.int .i64 (999))] none 0 none)) .lf))) (some (.cells [(.string ⟨#[63]⟩),.nilFunc,.nilFunc,(.string ⟨#[110,117,109]⟩),(.func (.func 95) [] [(.ptr (some ⟨(.loc 2),0⟩)),(.ptr (some ⟨(.loc 3),0⟩))]),.nilFunc,(.string ⟨#[97,100,100]⟩),.nilFunc,.nilFunc,(.string ⟨#[115,117,98]⟩),.nilFunc,.nilFunc,(.string ⟨#[109,117,108]⟩),.nilFunc,.nilFunc,(.string ⟨#[108,101,115,115]⟩),.nilFunc,.nilFunc,(.string ⟨#[99,111,117,110,116]⟩),(.func (.func 95) [] [(.ptr (some ⟨(.loc 4),0⟩)),(.ptr (some ⟨(.loc 5),0⟩))]),.nilFunc,(.string ⟨#[108,105,102,101]⟩),(.func (.func 96) [] [(.ptr (some ⟨(.loc 6),0⟩))]),.nilFunc,(.string ⟨#[106,117,109,112]⟩),(.func (.func 93) [] []),.nilFunc,(.string ⟨#[122,101,114,111]⟩),(.func (.func 93) [] []),.nilFunc,(.string ⟨#[104,117,114,116]⟩),(.func (.func 96) [] [(.ptr (some ⟨(.loc 10),0⟩))]),.nilFunc,(.string ⟨#[103,97,105,110]⟩),(.func (.func 96) [] [(.ptr (some ⟨(.loc 14),0⟩))]),.nilFunc,(.string ⟨#[100,114,97,119]⟩),(.func (.func 96) [] [(.ptr (some ⟨(.loc 14),0⟩))]),.nilFunc,(.string ⟨#[107,105,108,108]⟩),(.func (.func 96) [] [(.ptr (some ⟨(.loc 18),0⟩))]),.nilFunc,(.string ⟨#[98,111,117,110,99,101]⟩),(.func (.func 96) [] [(.ptr (some ⟨(.loc 18),0⟩))]),.nilFunc,(.string ⟨#[98,97,110,105,115,104]⟩),(.func (.func 96) [] [(.ptr (some ⟨(.loc 18),0⟩))]),.nilFunc,(.string ⟨#[112,117,109,112]⟩),(.func (.func 96) [] [(.ptr (some ⟨(.loc 18),0⟩))]),.nilFunc,(.string ⟨#[103,114,97,110,116]⟩),(.func (.func 96) [] [(.ptr (some ⟨(.loc 18),0⟩))]),(.func (.func 95) [] [(.ptr (some ⟨(.loc 22),0⟩)),(.ptr (some ⟨(.loc 23),0⟩))]),(.string ⟨#[116,97,112]⟩),(.func (.func 96) [] [(.ptr (some ⟨(.loc 18),0⟩))]),.nilFunc,(.string ⟨#[117,110,116,97,112]⟩),(.func (.func 96) [] [(.ptr (some ⟨(.loc 18),0⟩))]),.nilFunc,(.string ⟨#[99,111,117,110,116,101,114]⟩),(.func (.func 92) [] []),.nilFunc,(.string ⟨#[116,111,107,101,110]⟩),(.func (.func 96) [] [(.ptr (some ⟨(.loc 14),0⟩))]),(.func (.func 94) [] []),(.string ⟨#[109,97,110,97]⟩),(.func (.func 95) [] [(.ptr (some ⟨(.loc 24),0⟩)),(.ptr (some ⟨(.loc 25),0⟩))]),.nilFunc,(.string ⟨#[114,111,108,108]⟩),(.func (.func 95) [] [(.ptr (some ⟨(.loc 26),0⟩)),(.ptr (some ⟨(.loc 27),0⟩))]),.nilFunc,(.string ⟨#[101,110,100]⟩),.nilFunc,.nilFunc] none 0 (some 119))) (.nd (.nd z43 (some (.cells [(.int .i64 (3))] none 0 none)) (.nd .lf (some (.cells [(.int .i64 (3))] none 0 none)) .lf)) (some (.cells [(.int .i64 (7))] none 0 none)) (.nd z44 (some (.cells [(.int .i64 (7))] none 0 none)) .lf))) (some (.cells [(.sint .i64 2),(.sint .i64 0),(.sint .i64 1)] none 0 (some 115))) (.nd (.nd (.nd z43 (some (.cells [(.int .i64 (3))] none 0 none)) (.nd .lf (some (.cells [(.int .i64 (0))] none 0 none)) .lf)) (some (.cells [(.int .i64 (5))] none 0 none)) (.nd z44 (some (.cells [(.int .i64 (2))] none 0 none)) .lf)) (some (.cells [(.int .i64 (-999))] none 0 none)) (.nd (.nd (.nd .lf (some (.cells [(.slice (some ⟨(.loc 19),0⟩) 3 3)] none 0 none)) .lf) (some (.cells [(.slice (some ⟨(.loc 11),0⟩) 2 2)] none 0 none)) z45) (some (.cells [(.slice (some ⟨(.loc 7),0⟩) 2 2)] none 0 none)) (.nd z45 (some (.cells [(.slice (some ⟨(.loc 15),0⟩) 3 3)] none 0 none)) .lf)))),28,3,[(.sint .i64 3)],a9d,c8P,e3P⟩
def d9o:List KE:=[]
def ccC:List CutP:=[d5a,a5F]
def d1n:Code:=match Try.f83.body with|some c=>c|none=>.skip
def a4z(c:CutP):Ivs→List Fact→Leaf→Bool:=b3a Try.prog (b6m Try.prog d9o 20000) Try.f83.ntmps [0] 1000 Try.f83.results.toList d1n ccC c
def z46:List Fact:=.bin .lss (.sint .i64 12) (.sint .i64 11) (.bool true)::[]
theorem d9w:a0q (a7M d5M) c3Z c8r z46=true:=by kernel_rfl
def z47:Ivs:=a0o (a2L a2U 21 (0)) 22 (0+1)
theorem c8n:a0q (a7M a8v) c1a (a0o z47 22 (1+1)) z46=true:=by kernel_rfl
def z48:Ivs:=a2L (a2L a2U 21 (0)) 22 (0)
def z49:Ivs:=a2L (a0o z48 14 (0+1)) 14 (5)
def z50:Ivs:=a0o (a0o z49 14 (1+1)) 14 (2+1)
theorem b4a:a0q (a7M a8v) a7u (a2L (a0o z50 14 (3+1)) 14 (4)) z46=true:=by kernel_rfl
def z51:Ivs:=a0o (a0o c1L 1 (0+1)) 1 (1+1)
theorem d4m:a0q (d0W c4s) c8D (a2L z51 1 (2)) []=true:=by kernel_rfl
def z52:Ivs:=a2L (a0o a9d 6 (0+1)) 6 (24)
def z53:Ivs:=a0o (a0o z52 6 (1+1)) 6 (2+1)
def z54:Ivs:=a0o (a0o z53 6 (3+1)) 6 (4+1)
def z55:Ivs:=a0o (a0o z54 6 (5+1)) 6 (6+1)
def z56:List Fact:=.bin .lss (.sint .i64 3) (.sint .i64 2) (.bool true)::[]
theorem b3d:a0q (a4z a5F) a7L (a2L z55 6 (7)) z56=true:=by kernel_rfl
theorem b8q:a0q (a4z a5F) b0d (a2L z54 6 (5)) z56=true:=by kernel_rfl
theorem e2D:a0q (d0W c4s) d8F (a2L c1L 1 (0)) []=true:=by kernel_rfl
theorem c8q:a0q (a7M a8v) c1d (a2L z48 14 (0)) z46=true:=by kernel_rfl
def z57:List Fact:=.bin .lss (.sint .i64 12) (.sint .i64 11) (.bool false)::[]
theorem d9x:a0q (a7M a8v) d5q a2U z57=true:=by kernel_rfl
def z58:Ivs:=a0o (a0o z55 6 (7+1)) 6 (8+1)
def z59:Ivs:=a0o (a0o z58 6 (9+1)) 6 (10+1)
def z60:Ivs:=a0o (a0o z59 6 (11+1)) 6 (12+1)
theorem a6J:a0q (a4z a5F) a2t (a0o (a0o z60 6 (13+1)) 6 (14+1)) z56=true:=by kernel_rfl
theorem c8o:a0q (a7M a8v) c1b (a2L z47 22 (1)) z46=true:=by kernel_rfl
theorem a8m:a0q (a4z a5F) a3t (a2L z59 6 (11)) z56=true:=by kernel_rfl
theorem d9z:a0q (a7M d0v) d2M (a0o c3d 0 (-1+1)) []=true:=by kernel_rfl
theorem b1C:a0q (a4z a5F) a4y (a2L z58 6 (9)) z56=true:=by kernel_rfl
theorem c1K:a0q (a4z a5F) b2v (a2L (a0o z53 6 (3+1)) 6 (4)) z56=true:=by kernel_rfl
theorem c5E:a0q (a7M a8v) b6Q (a0o (a0o z48 14 (0+1)) 14 (5+1)) z46=true:=by kernel_rfl
theorem d4i:a0q (a4z a5F) c7y (a0o (a0o a9d 6 (0+1)) 6 (24+1)) z56=true:=by kernel_rfl
theorem b9k:a0q (a7M a8v) b1e (a2L (a0o z49 14 (1+1)) 14 (2)) z46=true:=by kernel_rfl
theorem a7k:a0q (a4z a5F) a3e (a2L (a0o z59 6 (11+1)) 6 (12)) z56=true:=by kernel_rfl
theorem b2x:a0q (a4z a5F) a6I (a2L (a0o z55 6 (7+1)) 6 (8)) z56=true:=by kernel_rfl
theorem c8B:a0q (a4z a5F) b8o (a2L (a0o z52 6 (1+1)) 6 (2)) z56=true:=by kernel_rfl
theorem e1u:a0q (d9j d5Z) d7o c7u z57=true:=by kernel_rfl
theorem e0A:a0q (a7M d0v) d2N (a2L c3d 0 (-1)) []=true:=by kernel_rfl
theorem e4e:a0q (d9j d9k) e3J d7q []=true:=by kernel_rfl
theorem e1y:a0q (a4z a5F) d7y a9d (.bin .lss (.sint .i64 3) (.sint .i64 2) (.bool false)::[])=true:=by kernel_rfl
def z61:Ivs:=a0o (a0o a2U 21 (0+1)) 22 (0+1)
theorem c8l:a0q (a7M a8v) c1Y (a0o z61 22 (1+1)) z46=true:=by kernel_rfl
theorem b6T:a0q (a7M a8v) a9o (a2L z50 14 (3)) z46=true:=by kernel_rfl
theorem a6K:a0q (a4z a5F) a2u (a2L (a0o z60 6 (13+1)) 6 (14)) z56=true:=by kernel_rfl
theorem b5v:a0q (a4z a5F) a8k (a2L (a0o z54 6 (5+1)) 6 (6)) z56=true:=by kernel_rfl
theorem e3e:a0q (e3d d9A) e2i d5v []=true:=by kernel_rfl
theorem e3g:a0q (e3f d9B) e2j d5y []=true:=by kernel_rfl
theorem e3j:a0q (e3h d9C) e2k d6B []=true:=by kernel_rfl
theorem c3c:a0q (a7M a8v) b3h (a2L z49 14 (1)) z46=true:=by kernel_rfl
theorem d9v:a0q (a7M d5M) d2L c8r z57=true:=by kernel_rfl
theorem e2B:a0q (a4z d5a) d8A (a2L d0V 0 (-1)) []=true:=by kernel_rfl
theorem d0Y:a0q (d0W c4s) c3D (a2L (a0o z51 1 (2+1)) 1 (3)) []=true:=by kernel_rfl
theorem d2P:a0q (a7M a8v) c5B (a2L (a0o a2U 21 (0+1)) 22 (0)) z46=true:=by kernel_rfl
theorem e2A:a0q (a4z d5a) d7z (a0o d0V 0 (-1+1)) []=true:=by kernel_rfl
theorem d0U:a0q (a4z a5F) c3B (a2L z52 6 (1)) z56=true:=by kernel_rfl
theorem c4e:a0q (a4z a5F) b4T (a2L z53 6 (3)) z56=true:=by kernel_rfl
theorem d0X:a0q (d0W c4s) c3C (a0o (a0o z51 1 (2+1)) 1 (3+1)) []=true:=by kernel_rfl
theorem c8m:a0q (a7M a8v) c1Z (a2L z61 22 (1)) z46=true:=by kernel_rfl
theorem b4Z:a0q (a7M a8v) a7t (a0o (a0o z50 14 (3+1)) 14 (4+1)) z46=true:=by kernel_rfl
theorem d8I:a0q (d0W c4s) d1p (a2L (a0o c1L 1 (0+1)) 1 (1)) []=true:=by kernel_rfl
theorem a6w:a0q (a4z a5F) a3G (a2L z60 6 (13)) z56=true:=by kernel_rfl
theorem a9c:a0q (a4z a5F) a4R (a2L (a0o z58 6 (9+1)) 6 (10)) z56=true:=by kernel_rfl
theorem e1v:a0q (d9j d5Z) d7p c7u z46=true:=by kernel_rfl
theorem d8C:a0q (a4z a5F) d1m (a2L a9d 6 (0)) z56=true:=by kernel_rfl
theorem e4d:Go.Ev.a0q (d9j d5Z) e3I c7u []=true:=Go.Ev.b1W e1v e1u
theorem d7r: @Go.Ev.Auto (Go.Ev.b2d Try.prog d9l) Try.prog (Go.Ev.b6m Try.prog d9l 20000) Try.f40 d1f [0] 1000 clC (fun _=>none):=Go.Ev.a7l c9i mixed (by kernel_rfl) ⟨e4e,e4d,trivial⟩ ⟨(fun _ _=>rfl),(b3C []),trivial⟩
def z62:Ivs:=Go.Ev.a0o (Go.Ev.a0o c1L 1 (0+1)) 1 (1+1)
theorem d4l:Go.Ev.a0q (d0W c4s) c8C (Go.Ev.a0o z62 1 (2+1)) []=true:=Go.Ev.a0O d0Y d0X
theorem d8H:Go.Ev.a0q (d0W c4s) d1o z62 []=true:=Go.Ev.a0O d4m d4l
theorem e2C:Go.Ev.a0q (d0W c4s) d8E (Go.Ev.a0o c1L 1 (0+1)) []=true:=Go.Ev.a0O d8I d8H
theorem e4k:Go.Ev.a0q (d0W c4s) d8G c1L []=true:=Go.Ev.a0O e2D e2C
theorem d8J: @Go.Ev.Auto (Go.Ev.b2d Try.prog d9p) Try.prog (Go.Ev.b6m Try.prog d9p 20000) Try.f41 d1q [] 1000 cbC (fun _=>none):=Go.Ev.a7l c9i mixed (by kernel_rfl) ⟨e4k,trivial⟩ ⟨(fun _ _=>rfl),trivial⟩
theorem d6C: @Go.Ev.Auto (Go.Ev.b2d Try.prog d6D) Try.prog (Go.Ev.b6m Try.prog d6D 20000) Try.f23 d0z [0] 1000 vaC (fun _=>none):=Go.Ev.a7l c9i mixed (by kernel_rfl) ⟨e3j,trivial⟩ ⟨(fun _ _=>rfl),trivial⟩
theorem d5z: @Go.Ev.Auto (Go.Ev.b2d Try.prog d6A) Try.prog (Go.Ev.b6m Try.prog d6A 20000) Try.f23 d0y [0] 1000 vbC (fun _=>none):=Go.Ev.a7l c9i mixed (by kernel_rfl) ⟨e3g,trivial⟩ ⟨(fun _ _=>rfl),trivial⟩
theorem d5w: @Go.Ev.Auto (Go.Ev.b2d Try.prog d5x) Try.prog (Go.Ev.b6m Try.prog d5x 20000) Try.f23 d0x [0] 1000 vcC (fun _=>none):=Go.Ev.a7l c9i mixed (by kernel_rfl) ⟨e3e,trivial⟩ ⟨(fun _ _=>rfl),trivial⟩
theorem e3c:Go.Ev.a0q (a7M d0v) d8z c3d []=true:=Go.Ev.a0O e0A d9z
def z63:Ivs:=Go.Ev.a2L a2U 21 (0)
def z64:Ivs:=Go.Ev.a0o (Go.Ev.a2L z63 22 (0)) 14 (0+1)
def z65:Ivs:=Go.Ev.a0o (Go.Ev.a2L z64 14 (5)) 14 (1+1)
theorem b6S:Go.Ev.a0q (a7M a8v) a9n (Go.Ev.a0o (Go.Ev.a0o z65 14 (2+1)) 14 (3+1)) z46=true:=Go.Ev.a0O b4a b4Z
theorem b9j:Go.Ev.a0q (a7M a8v) b1d (Go.Ev.a0o z65 14 (2+1)) z46=true:=Go.Ev.a0O b6T b6S
theorem c3b:Go.Ev.a0q (a7M a8v) b3g z65 z46=true:=Go.Ev.a0O b9k b9j
theorem c5F:Go.Ev.a0q (a7M a8v) b6R (Go.Ev.a2L z64 14 (5)) z46=true:=Go.Ev.a0O c3c c3b
theorem c8p:Go.Ev.a0q (a7M a8v) c1c z64 z46=true:=Go.Ev.a0O c5F c5E
theorem d2R:Go.Ev.a0q (a7M a8v) c5D (Go.Ev.a2L z63 22 (0)) z46=true:=Go.Ev.a0O c8q c8p
theorem d2Q:Go.Ev.a0q (a7M a8v) c5C (Go.Ev.a0o z63 22 (0+1)) z46=true:=Go.Ev.a0O c8o c8n
theorem d5s:Go.Ev.a0q (a7M a8v) d0u z63 z46=true:=Go.Ev.a0O d2R d2Q
def z66:Ivs:=Go.Ev.a0o a2U 21 (0+1)
theorem d2O:Go.Ev.a0q (a7M a8v) c5A (Go.Ev.a0o z66 22 (0+1)) z46=true:=Go.Ev.a0O c8m c8l
theorem d5r:Go.Ev.a0q (a7M a8v) d0t z66 z46=true:=Go.Ev.a0O d2P d2O
theorem d9y:Go.Ev.a0q (a7M a8v) c3a a2U z46=true:=Go.Ev.a0O d5s d5r
theorem e3b:Go.Ev.a0q (a7M a8v) e2h a2U []=true:=Go.Ev.b1W d9y d9x
theorem e3a:Go.Ev.a0q (a7M d5M) e2g c8r []=true:=Go.Ev.b1W d9w d9v
theorem d5t: @Go.Ev.Auto (Go.Ev.b2d Try.prog d5u) Try.prog (Go.Ev.b6m Try.prog d5u 20000) Try.f23 d0w [0] 1000 vdC (fun _=>none):=Go.Ev.a7l c9i mixed (by kernel_rfl) ⟨e3c,e3b,e3a,trivial⟩ ⟨(fun _ _=>rfl),(b3C (b7T false)),(b3C (b7T false)),trivial⟩
theorem e4j:Go.Ev.a0q (a4z d5a) e3Q d0V []=true:=Go.Ev.a0O e2B e2A
def z67:Ivs:=Go.Ev.a2L (Go.Ev.a0o a9d 6 (0+1)) 6 (24)
def z68:Ivs:=Go.Ev.a0o (Go.Ev.a0o z67 6 (1+1)) 6 (2+1)
def z69:Ivs:=Go.Ev.a0o (Go.Ev.a0o z68 6 (3+1)) 6 (4+1)
def z70:Ivs:=Go.Ev.a0o (Go.Ev.a0o z69 6 (5+1)) 6 (6+1)
def z71:Ivs:=Go.Ev.a0o (Go.Ev.a0o z70 6 (7+1)) 6 (8+1)
def z72:Ivs:=Go.Ev.a0o (Go.Ev.a0o z71 6 (9+1)) 6 (10+1)
def z73:Ivs:=Go.Ev.a0o (Go.Ev.a0o z72 6 (11+1)) 6 (12+1)
theorem a6v:Go.Ev.a0q (a4z a5F) a3F (Go.Ev.a0o z73 6 (13+1)) z56=true:=Go.Ev.a0O a6K a6J
theorem a7j:Go.Ev.a0q (a4z a5F) a3d z73 z56=true:=Go.Ev.a0O a6w a6v
theorem a8l:Go.Ev.a0q (a4z a5F) a3s (Go.Ev.a0o z72 6 (11+1)) z56=true:=Go.Ev.a0O a7k a7j
theorem a9b:Go.Ev.a0q (a4z a5F) a4Q z72 z56=true:=Go.Ev.a0O a8m a8l
theorem b1B:Go.Ev.a0q (a4z a5F) a4x (Go.Ev.a0o z71 6 (9+1)) z56=true:=Go.Ev.a0O a9c a9b
theorem b2w:Go.Ev.a0q (a4z a5F) a6H z71 z56=true:=Go.Ev.a0O b1C b1B
theorem b3c:Go.Ev.a0q (a4z a5F) a7K (Go.Ev.a0o z70 6 (7+1)) z56=true:=Go.Ev.a0O b2x b2w
theorem b5u:Go.Ev.a0q (a4z a5F) a8j z70 z56=true:=Go.Ev.a0O b3d b3c
theorem b8p:Go.Ev.a0q (a4z a5F) b0c (Go.Ev.a0o z69 6 (5+1)) z56=true:=Go.Ev.a0O b5v b5u
theorem c1J:Go.Ev.a0q (a4z a5F) b2u z69 z56=true:=Go.Ev.a0O b8q b8p
theorem c4d:Go.Ev.a0q (a4z a5F) b4S (Go.Ev.a0o z68 6 (3+1)) z56=true:=Go.Ev.a0O c1K c1J
theorem c8A:Go.Ev.a0q (a4z a5F) b8n z68 z56=true:=Go.Ev.a0O c4e c4d
theorem d0T:Go.Ev.a0q (a4z a5F) c3A (Go.Ev.a0o z67 6 (1+1)) z56=true:=Go.Ev.a0O c8B c8A
theorem d4j:Go.Ev.a0q (a4z a5F) c7z z67 z56=true:=Go.Ev.a0O d0U d0T
theorem d8B:Go.Ev.a0q (a4z a5F) d1l (Go.Ev.a0o a9d 6 (0+1)) z56=true:=Go.Ev.a0O d4j d4i
theorem e1z:Go.Ev.a0q (a4z a5F) b3b a9d z56=true:=Go.Ev.a0O d8C d8B
theorem e4i:Go.Ev.a0q (a4z a5F) e3P a9d []=true:=Go.Ev.b1W e1z e1y
theorem d8D: @Go.Ev.Auto (Go.Ev.b2d Try.prog d9o) Try.prog (Go.Ev.b6m Try.prog d9o 20000) Try.f83 d1n [0] 1000 ccC (fun _=>none):=Go.Ev.a7l c9i mixed (by kernel_rfl) ⟨e4j,e4i,trivial⟩ ⟨(fun _ _=>rfl),c8O,trivial⟩
end
end Go.Proofs.Ytmmmknhdigapkaa.plq
