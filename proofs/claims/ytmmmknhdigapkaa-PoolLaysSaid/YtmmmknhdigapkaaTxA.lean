/-
  Which cards and codes may be: cuts, trees of cases (printed by a program of ours).
-/
import Derived.Test.YtmmmknhdigapkaaProg
import Derived.Test.YtmmmknhdigapkaaEv9
import Derived.ProofKit
namespace Go.Proofs.Ytmmmknhdigapkaa.plq
open Go.Ev Go.RowKit
set_option linter.unusedVariables false
noncomputable section
theorem b8w:d1l Try.prog=true:=by kernel_rfl
theorem mixed:Try.prog.follows .mixedOrders=true:=by kernel_rfl
def si(i:Nat):VV:=.sint .i64 i
def a0C:Int×Int:=(-9223372036854775808,9223372036854775807)
def c1D(fs:List Fact)(a b:Nat):Bool:=fs.any fun f=>match f with
 |.bin .lss (.sint _ x) (.sint _ y) (.bool true)=>Nat.beq x a&&Nat.beq y b
 |_=>false
def d2C(iv:Ivs)(i:Nat)(c:Int):Bool:=decide ((a2I iv i).1≥c)
def a5d:VV:=.agg [.sym 0,si 1,si 2,si 3,si 4,si 5,si 6,si 7,si 8,si 9,.sym 1]
def d2k:List Fact:=[.len true (.sym 0) (si 10),.len false (.sym 1) (si 11)]
def e0w:List Fact:=[.at 13 (.sym 1) (si 12) ⟨.sym 30,0⟩,.bin .add (si 12) (.int .i64 1) (si 13),.len false (.sym 32) (si 22),.len false (.sym 33) (si 23)]
def tgF(iv:Ivs):List Fact:=(match d2C iv 22 1 with|true=>[.at 1 (.sym 32) (.int .i64 0) ⟨.sym 31,0⟩]|false=>[])++(match d2C iv 22 2 with|true=>[.at 1 (.sym 32) (.int .i64 1) ⟨.sym 31,1⟩]|false=>[])
def d9T(iv:Ivs):VV:=match d2C iv 21 1,decide ((a2I iv 21).2≤0)with|true,_=>.bool true|_,true=>.bool false|_,_=>.one
def c9o(iv:Ivs):List VV:=[sv iv .i64 14,si 15,si 16,si 17,si 18,si 19,si 20,d9T iv,.sym 32,.sym 33,si 24,si 25,si 26]
def c3L(x:List Fact)(iv:Ivs)(fs:List Fact):Env:=⟨fun _=>none,a2I iv,fs++(x++d2k),fun _=>none⟩
def a4S(x:List Fact)(iv:Ivs)(fs:List Fact):Env:=match c1D fs 12 11 with
 |true=>⟨fun _=>none,a2I iv,fs++(x++(d2k++(e0w++tgF iv))),fun i=>match Nat.beq i 30 with|true=>some (c9o iv)|false=>match Nat.beq i 31,d2C iv 22 1 with|true,true=>some (match d2C iv 22 2 with|true=>[si 27,si 28]|false=>[si 27])|_,_=>none⟩
 |false=>c3L x iv fs
def a1c(b:Bool):List Fact:=[.bin .eql (.sym 0) (.string .empty) (.bool b),.bin .neq (.sym 0) (.string .empty) (.bool (!b))]
def ivE:Ivs:=[a0C,a0C,a0C,a0C,a0C,a0C,a0C,a0C,a0C,a0C,(0,9223372036854775807),(0,9223372036854775807)]
def codeF:List Fact:=[.len false (.sym 0) (si 2)]
def d6H:List Fact:=[.at 3 (.sym 0) (si 3) ⟨.sym 5,0⟩,.bin .add (si 3) (.int .i64 1) (si 4)]
def d7s(iv:Ivs)(fs:List Fact):Env:=⟨fun _=>none,a2I iv,fs++codeF,fun _=>none⟩
def c3F(iv:Ivs)(fs:List Fact):Env:=match c1D fs 3 2 with
 |true=>⟨fun _=>none,a2I iv,fs++(codeF++d6H),fun i=>match Nat.beq i 5 with|true=>some [sv iv .i64 6,si 7,si 8]|false=>none⟩
 |false=>d7s iv fs
theorem a0p(x:List Fact)(iv:Ivs)(fs:List Fact):(a4S x iv fs).blk=fun _=>none:=by
 unfold a4S
 split<;>rfl
theorem b7w(iv:Ivs)(fs:List Fact):(c3F iv fs).blk=fun _=>none:=by
 unfold c3F
 split<;>rfl
def d6K:Ivs:=[a0C,a0C,a0C,a0C,a0C,a0C,a0C,a0C,a0C,a0C,(0,9223372036854775807),(0,9223372036854775807)]
def z0:TrX Leaf:=.leaf (.goto 1 [(.int .i64 (0))])
def e2j:TrX Leaf:=z0
def z1:VV:=.agg [(.sym 0),(.sint .i64 1),(.sint .i64 2),(.sint .i64 3),(.sint .i64 4),(.sint .i64 5),(.sint .i64 6),(.sint .i64 7),(.sint .i64 8),(.sint .i64 9),(.sym 1)]
def z2:TT VV:=.nd .lf (some z1) .lf
def d7m:CutP:=⟨none,z2,.lf,0,10,[],d6K,(c3L []),e2j⟩
def c5s:Ivs:=[a0C,a0C,a0C,a0C,a0C,a0C,a0C,a0C,a0C,a0C,(0,9223372036854775807),(0,9223372036854775807),(0,9223372036854775807),a0C,a0C,a0C,a0C,a0C,a0C,a0C,a0C,(0,1),(0,9223372036854775807),(0,9223372036854775807),a0C,a0C,a0C,a0C,a0C,(0,1000)]
def z3:TrX Leaf:=.leaf (.goto 1 [(.sint .i64 13)])
def z4:TrX Leaf:=.leaf (.ret (.bool true))
def d6J:TrX Leaf:=(.cut 22 (2) (.cut 23 (32) z3 z4) z4)
def z5:TrX Leaf:=.leaf (.ret (.bool false))
def d6I:TrX Leaf:=(.cut 10 (16) (.cut 11 (4) z5 z4) z4)
def e2i:TrX Leaf:=.rel .i64 12 11 d6J d6I
def z6:TT VV:=.nd .lf (some .any) .lf
def z7:TT VV:=.nd z6 (some .any) .lf
def z8:TT VV:=.nd z6 (some .any) z6
def z9:TT VV:=.nd z8 (some .any) z8
def z10:TT VO:=.nd .lf (some (.cells [(.sym 0),(.sint .i64 1),(.sint .i64 2),(.sint .i64 3),(.sint .i64 4),(.sint .i64 5),(.sint .i64 6),(.sint .i64 7),(.sint .i64 8),(.sint .i64 9),(.sym 1)] none 0 none)) .lf
def d3Q:CutP:=⟨some 0,(.nd (.nd (.nd (.nd z7 (some (.sint .i64 11)) z6) (some .any) z8) (some (.ptr (some ⟨(.loc 0),0⟩))) z9) (some .any) (.nd (.nd (.nd z7 (some (.sint .i64 12)) z6) (some .any) z8) (some (.bool false)) (.nd z8 (some (.sym 1)) z8))),z10,1,12,[(.sint .i64 12)],c5s,(a4S []),e2i⟩
def d7n:List KE:=[]
def clC:List CutP:=[d7m,d3Q]
def c9m:Code:=match Try.f40.body with|some c=>c|none=>.skip
def d7l(c:CutP):Ivs→List Fact→Leaf→Bool:=a7i Try.prog (a9K Try.prog d7n 20000) Try.f40.ntmps [0] 1000 Try.f40.results.toList c9m clC c
def b9l:Ivs:=[a0C,a0C,a0C,a0C,a0C,a0C,a0C,a0C,a0C,a0C,(0,9223372036854775807),(0,9223372036854775807)]
def d6b:TrX Leaf:=z5
def c9t:TrX Leaf:=(.cut 2 (-1) z5 (.cut 2 (20) (.cut 3 (-1) z5 (.cut 3 (20) (.cut 4 (-1) z5 (.cut 4 (20) (.cut 5 (-1) z5 (.cut 5 (20) (.cut 6 (-1) z5 (.cut 6 (3) (.cut 7 (-1) z5 (.cut 7 (0) (.cut 8 (-1) z5 (.cut 8 (0) (.cut 9 (-1) z5 (.cut 9 (0) (.cut 2 (0) (.cut 3 (0) (.cut 4 (0) (.cut 5 (0) z4 z5) z5) z5) z5) z5)) z5)) z5)) z5)) z5)) z5)) z5)) z5))
def c6B:TrX Leaf:=(.cut 2 (-1) z5 (.cut 2 (20) (.cut 3 (-1) z5 (.cut 3 (20) (.cut 4 (-1) z5 (.cut 4 (20) (.cut 5 (-1) z5 (.cut 5 (20) (.cut 6 (-1) z5 (.cut 6 (0) (.cut 7 (-1) z5 (.cut 7 (15) (.cut 8 (-1) z5 (.cut 8 (15) (.cut 9 (-1) z5 (.cut 9 (127) (.cut 2 (0) (.cut 3 (0) (.cut 4 (0) (.cut 5 (0) z4 z4) z4) z4) z4) z5)) z5)) z5)) z5)) z5)) z5)) z5)) z5))
def z11:TrX Leaf:=.cut 9 (0) z4 (.cut 9 (63) z5 z4)
def z12:TrX Leaf:=.cut 2 (-1) z5 (.cut 2 (20) (.cut 3 (-1) z5 (.cut 3 (20) (.cut 4 (-1) z5 (.cut 4 (20) (.cut 5 (-1) z5 (.cut 5 (20) (.cut 6 (-1) z5 (.cut 6 (0) (.cut 7 (-1) z5 (.cut 7 (0) (.cut 8 (-1) z5 (.cut 8 (0) (.cut 9 (-1) z5 (.cut 9 (64) (.cut 2 (0) (.cut 3 (0) (.cut 4 (0) (.cut 5 (0) z11 z11) z11) z11) z11) z5)) z5)) z5)) z5)) z5)) z5)) z5)) z5)
def c1W:TrX Leaf:=z12
def c1V:TrX Leaf:=(.cut 1 (4) z12 z5)
def c6A:TrX Leaf:=.cut 1 (3) c1W c1V
def c9s:TrX Leaf:=.cut 1 (2) c6B c6A
def d6a:TrX Leaf:=.cut 1 (1) c9t c9s
def d3S:TrX Leaf:=.cut 1 (0) d6b d6a
def c3J:CutP:=⟨none,z2,.lf,0,10,[],b9l,(c3L []),d3S⟩
def d7q:List KE:=[]
def cbC:List CutP:=[c3J]
def c9u:Code:=match Try.f41.body with|some c=>c|none=>.skip
def c8a(c:CutP):Ivs→List Fact→Leaf→Bool:=a7i Try.prog (a9K Try.prog d7q 20000) Try.f41.ntmps [] 1000 Try.f41.results.toList c9u cbC c
def d4f:Ivs:=[a0C,a0C,a0C,a0C,a0C,a0C,a0C,a0C,a0C,a0C,(0,9223372036854775807),(0,9223372036854775807)]
def z13:TrX Leaf:=.leaf (.ret (.int .i64 (2)))
def z14:TrX Leaf:=.leaf (.ret (.int .i64 (3)))
def e2I:TrX Leaf:=(.cut 0 (-1) z13 (.cut 0 (40) z14 z13))
def z15:TT VV:=.nd .lf (some (.sint .i64 0)) .lf
def z16:TT VV:=.nd z15 (some z1) .lf
def d7G:CutP:=⟨none,z16,.lf,0,10,[],d4f,(c3L []),e2I⟩
def d4h:List KE:=[⟨40,[z1],[],(.bool true)⟩]
def vaC:List CutP:=[d7G]
def c9I:Code:=match Try.f23.body with|some c=>c|none=>.skip
def e3Q(c:CutP):Ivs→List Fact→Leaf→Bool:=a7i Try.prog (a9K Try.prog d4h 20000) Try.f23.ntmps [0] 1000 Try.f23.results.toList c9I vaC c
def d4c:Ivs:=[a0C,a0C,a0C,a0C,a0C,a0C,a0C,a0C,a0C,a0C,(0,9223372036854775807),(0,9223372036854775807)]
def z17:TrX Leaf:=.leaf (.ret (.int .i64 (10)))
def z18:TrX Leaf:=.cut 0 (-1) z13 (.cut 0 (40) z17 z13)
def e2H:TrX Leaf:=z18
def d7F:CutP:=⟨none,z16,.lf,0,10,[],d4c,(c3L (a1c true)),e2H⟩
def d4e:List KE:=[⟨40,[z1],[],(.bool false)⟩]
def vbC:List CutP:=[d7F]
def c9H:Code:=match Try.f23.body with|some c=>c|none=>.skip
def e3O(c:CutP):Ivs→List Fact→Leaf→Bool:=a7i Try.prog (a9K Try.prog d4e 20000) Try.f23.ntmps [0] 1000 Try.f23.results.toList c9H vbC c
def d4Z:Ivs:=[a0C,a0C,a0C,a0C,a0C,a0C,a0C,a0C,a0C,a0C,(0,9223372036854775807),(0,9223372036854775807)]
def e2G:TrX Leaf:=z18
def d7E:CutP:=⟨none,z16,.lf,0,10,[],d4Z,(c3L (a1c false)),e2G⟩
def d4b:List KE:=[⟨40,[z1],[],(.bool false)⟩,⟨41,[z1],[],(.bool false)⟩]
def vcC:List CutP:=[d7E]
def c9G:Code:=match Try.f23.body with|some c=>c|none=>.skip
def e3M(c:CutP):Ivs→List Fact→Leaf→Bool:=a7i Try.prog (a9K Try.prog d4b 20000) Try.f23.ntmps [0] 1000 Try.f23.results.toList c9G vcC c
def b8U:Ivs:=[a0C,a0C,a0C,a0C,a0C,a0C,a0C,a0C,a0C,a0C,(0,9223372036854775807),(0,9223372036854775807)]
def d0f:TrX Leaf:=z13
def z19:TrX Leaf:=.leaf (.goto 2 [(.int .i64 (0))])
def d0e:TrX Leaf:=(.cut 0 (40) (.cut 1 (2) z0 (.cut 1 (3) z19 z0)) z13)
def d7D:TrX Leaf:=.cut 0 (-1) d0f d0e
def c9E:CutP:=⟨none,z16,.lf,0,10,[],b8U,(c3L (a1c false)),d7D⟩
def a1t:Ivs:=[a0C,a0C,a0C,a0C,a0C,a0C,a0C,a0C,a0C,a0C,(0,9223372036854775807),(0,9223372036854775807),(0,9223372036854775807),a0C,a0C,a0C,a0C,a0C,a0C,a0C,a0C,(0,1),(0,2),(0,32),a0C,a0C,a0C,a0C,a0C,(0,1000)]
def c0N:TrX Leaf:=z17
def b3f:TrX Leaf:=z17
def z20:TrX Leaf:=.cut 29 (0) z3 z17
def z21:TrX Leaf:=.cut 15 (-1) z17 (.cut 15 (0) (.cut 16 (-1) z17 (.cut 16 (0) (.cut 24 (-1) z17 (.cut 24 (0) (.cut 25 (-1) z17 (.cut 25 (0) (.cut 26 (-1) z17 (.cut 26 (0) (.cut 17 (-1) z17 (.cut 17 (20) (.cut 18 (-1) z17 (.cut 18 (20) (.cut 19 (-1) z17 (.cut 19 (20) (.cut 20 (-1) z17 (.cut 20 (20) z20 z17)) z17)) z17)) z17)) z17)) z17)) z17)) z17)) z17)
def b1T:TrX Leaf:=z21
def a9x:TrX Leaf:=(.cut 17 (-1) z17 (.cut 17 (0) (.cut 18 (-1) z17 (.cut 18 (0) (.cut 19 (-1) z17 (.cut 19 (0) (.cut 20 (-1) z17 (.cut 20 (0) (.cut 24 (-1) z17 (.cut 24 (0) (.cut 25 (-1) z17 (.cut 25 (0) (.cut 26 (-1) z17 (.cut 26 (0) (.cut 15 (0) z17 (.cut 15 (6) (.cut 16 (-1) z17 (.cut 16 (2) z20 z17)) z17)) z17)) z17)) z17)) z17)) z17)) z17)) z17))
def z22:TrX Leaf:=.cut 25 (0) z17 (.cut 25 (127) (.cut 26 (-1) z17 (.cut 26 (0) z3 z17)) z17)
def a8A:TrX Leaf:=(.cut 17 (-1) z17 (.cut 17 (0) (.cut 18 (-1) z17 (.cut 18 (0) (.cut 19 (-1) z17 (.cut 19 (0) (.cut 20 (-1) z17 (.cut 20 (0) (.cut 23 (0) (.cut 15 (-1) z17 (.cut 15 (0) (.cut 16 (-1) z17 (.cut 16 (3) (.cut 24 (0) z17 (.cut 24 (1) z22 (.cut 24 (2) z22 (.cut 24 (3) (.cut 25 (-1) z17 (.cut 25 (15) (.cut 26 (-1) z17 (.cut 26 (15) z3 z17)) z17)) (.cut 24 (4) (.cut 25 (-16) z17 (.cut 25 (15) (.cut 26 (-16) z17 (.cut 26 (15) z3 z17)) z17)) z17))))) z17)) z17)) z17) z17)) z17)) z17)) z17))
def z23:TrX Leaf:=.cut 16 (-1) z17 (.cut 16 (1) (.cut 25 (-1) z17 (.cut 25 (0) z3 z17)) z17)
def a7z:TrX Leaf:=(.cut 17 (-1) z17 (.cut 17 (0) (.cut 18 (-1) z17 (.cut 18 (0) (.cut 19 (-1) z17 (.cut 19 (0) (.cut 20 (-1) z17 (.cut 20 (0) (.cut 23 (0) (.cut 24 (-1) z17 (.cut 24 (0) (.cut 26 (-1) z17 (.cut 26 (0) (.cut 15 (0) z17 (.cut 15 (1) (.cut 16 (-1) z17 (.cut 16 (0) (.cut 25 (0) z17 (.cut 25 (999) z3 z17)) z17)) (.cut 15 (2) z23 (.cut 15 (3) (.cut 16 (-1) z17 (.cut 16 (0) (.cut 25 (-1) z17 (.cut 25 (999) z3 z17)) z17)) (.cut 15 (4) z23 z17))))) z17)) z17)) z17) z17)) z17)) z17)) z17))
def a9w:TrX Leaf:=.cut 14 (4) a8A a7z
def b1S:TrX Leaf:=.cut 14 (3) a9x a9w
def b3e:TrX Leaf:=.cut 14 (2) b1T b1S
def b6T:TrX Leaf:=.cut 14 (1) b3f b3e
def b6S:TrX Leaf:=z17
def c0M:TrX Leaf:=.cut 14 (5) b6T b6S
def c3d:TrX Leaf:=.cut 14 (0) c0N c0M
def z24:TrX Leaf:=.cut 15 (-1) z17 (.cut 15 (0) (.cut 16 (-1) z17 (.cut 16 (0) (.cut 24 (-1) z17 (.cut 24 (0) (.cut 25 (-1) z17 (.cut 25 (0) (.cut 26 (-1) z17 (.cut 26 (0) (.cut 17 (-1) z17 (.cut 17 (20) (.cut 18 (-1) z17 (.cut 18 (20) (.cut 19 (-1) z17 (.cut 19 (20) (.cut 20 (-1) z17 (.cut 20 (20) (.cut 27 (0) z17 (.cut 27 (6) z20 z17)) z17)) z17)) z17)) z17)) z17)) z17)) z17)) z17)) z17)
def z25:TrX Leaf:=.cut 17 (-1) z17 (.cut 17 (0) (.cut 18 (-1) z17 (.cut 18 (0) (.cut 19 (-1) z17 (.cut 19 (0) (.cut 20 (-1) z17 (.cut 20 (0) z17 z17)) z17)) z17)) z17)
def z26:TrX Leaf:=.cut 14 (3) (.cut 17 (-1) z17 (.cut 17 (0) (.cut 18 (-1) z17 (.cut 18 (0) (.cut 19 (-1) z17 (.cut 19 (0) (.cut 20 (-1) z17 (.cut 20 (0) (.cut 24 (-1) z17 (.cut 24 (0) (.cut 25 (-1) z17 (.cut 25 (0) (.cut 26 (-1) z17 (.cut 26 (0) z17 z17)) z17)) z17)) z17)) z17)) z17)) z17)) (.cut 14 (4) z25 z25)
def c0L:TrX Leaf:=(.cut 14 (0) z17 (.cut 14 (5) (.cut 14 (1) z17 (.cut 14 (2) z24 z26)) z17))
def z27:TrX Leaf:=.cut 15 (-1) z17 (.cut 15 (0) (.cut 16 (-1) z17 (.cut 16 (0) (.cut 24 (-1) z17 (.cut 24 (0) (.cut 25 (-1) z17 (.cut 25 (0) (.cut 26 (-1) z17 (.cut 26 (0) (.cut 17 (-1) z17 (.cut 17 (20) (.cut 18 (-1) z17 (.cut 18 (20) (.cut 19 (-1) z17 (.cut 19 (20) (.cut 20 (-1) z17 (.cut 20 (20) (.cut 27 (0) z17 (.cut 27 (6) (.cut 28 (0) z17 (.cut 28 (6) z20 z17)) z17)) z17)) z17)) z17)) z17)) z17)) z17)) z17)) z17)) z17)
def c0K:TrX Leaf:=(.cut 14 (0) z17 (.cut 14 (5) (.cut 14 (1) z17 (.cut 14 (2) z27 z26)) z17))
def c3c:TrX Leaf:=.cut 22 (1) c0L c0K
def c9D:TrX Leaf:=.cut 22 (0) c3d c3c
def z28:TrX Leaf:=.cut 14 (3) z25 (.cut 14 (4) z25 z25)
def c3b:TrX Leaf:=(.cut 14 (0) z17 (.cut 14 (5) (.cut 14 (1) z17 (.cut 14 (2) z21 z28)) z17))
def c0J:TrX Leaf:=(.cut 14 (0) z17 (.cut 14 (5) (.cut 14 (1) z17 (.cut 14 (2) z24 z28)) z17))
def c0I:TrX Leaf:=(.cut 14 (0) z17 (.cut 14 (5) (.cut 14 (1) z17 (.cut 14 (2) z27 z28)) z17))
def c3a:TrX Leaf:=.cut 22 (1) c0J c0I
def c9C:TrX Leaf:=.cut 22 (0) c3b c3a
def b8R:TrX Leaf:=.cut 21 (0) c9D c9C
def z29:TrX Leaf:=.leaf (.ret (.int .i64 (0)))
def d4U:TrX Leaf:=z29
def e2F:TrX Leaf:=.rel .i64 12 11 b8R d4U
def z30:TT VV:=.nd z7 (some .any) z6
def z31:TT VV:=.nd z30 (some .any) z8
def z32:TT VV:=.nd (.nd (.nd (.nd z6 (some (.sint .i64 11)) .lf) (some .any) z6) (some .any) z8) (some .any) z31
def z33:TT VV:=.nd (.nd (.nd (.nd (.nd z6 (some (.sint .i64 12)) .lf) (some .any) z6) (some .any) z8) (some (.int .i64 (0))) z31) (some (.ptr (some ⟨(.loc 0),0⟩))) (.nd z31 (some .any) (.nd z8 (some .any) (.nd z6 (some (.sym 1)) z6)))
def a8w:CutP:=⟨some 0,(.nd (.nd z32 (some (.sint .i64 0)) (.nd z31 (some (.bool false)) z9)) (some .any) z33),z10,1,12,[(.sint .i64 12)],a1t,(a4S (a1c false)),e2F⟩
def c7I:Ivs:=[a0C,a0C,a0C,a0C,a0C,a0C,a0C,a0C,a0C,a0C,(0,9223372036854775807),(0,9223372036854775807),(0,9223372036854775807),a0C,a0C,a0C,a0C,a0C,a0C,a0C,a0C,(0,1),(0,2),(0,32),a0C,a0C,a0C,a0C,a0C,(0,1000)]
def z34:TrX Leaf:=.leaf (.goto 2 [(.sint .i64 13)])
def z35:TrX Leaf:=.cut 29 (0) z34 z17
def z36:TrX Leaf:=.cut 14 (0) z17 (.cut 14 (5) (.cut 14 (1) z25 z17) z17)
def b8Q:TrX Leaf:=(.cut 21 (0) (.cut 22 (0) (.cut 14 (0) z17 (.cut 14 (5) (.cut 14 (1) (.cut 17 (-1) z17 (.cut 17 (0) (.cut 18 (-1) z17 (.cut 18 (0) (.cut 19 (-1) z17 (.cut 19 (0) (.cut 20 (-1) z17 (.cut 20 (0) (.cut 15 (-1) z17 (.cut 15 (0) (.cut 16 (-1) z17 (.cut 16 (0) (.cut 24 (-1) z17 (.cut 24 (0) (.cut 25 (-1) z17 (.cut 25 (0) (.cut 26 (-1) z17 (.cut 26 (0) z35 z17)) z17)) z17)) z17)) z17)) z17)) z17)) z17)) z17)) z17) z17)) (.cut 22 (1) (.cut 14 (0) z17 (.cut 14 (5) (.cut 14 (1) (.cut 17 (-1) z17 (.cut 17 (0) (.cut 18 (-1) z17 (.cut 18 (0) (.cut 19 (-1) z17 (.cut 19 (0) (.cut 20 (-1) z17 (.cut 20 (0) (.cut 15 (-1) z17 (.cut 15 (0) (.cut 16 (-1) z17 (.cut 16 (0) (.cut 24 (-1) z17 (.cut 24 (0) (.cut 25 (-1) z17 (.cut 25 (0) (.cut 26 (-1) z17 (.cut 26 (0) (.cut 27 (0) z17 (.cut 27 (6) z35 z17)) z17)) z17)) z17)) z17)) z17)) z17)) z17)) z17)) z17)) z17) z17)) (.cut 14 (0) z17 (.cut 14 (5) (.cut 14 (1) (.cut 17 (-1) z17 (.cut 17 (0) (.cut 18 (-1) z17 (.cut 18 (0) (.cut 19 (-1) z17 (.cut 19 (0) (.cut 20 (-1) z17 (.cut 20 (0) (.cut 15 (-1) z17 (.cut 15 (0) (.cut 16 (-1) z17 (.cut 16 (0) (.cut 24 (-1) z17 (.cut 24 (0) (.cut 25 (-1) z17 (.cut 25 (0) (.cut 26 (-1) z17 (.cut 26 (0) (.cut 27 (0) z17 (.cut 27 (6) (.cut 28 (0) z17 (.cut 28 (6) z35 z17)) z17)) z17)) z17)) z17)) z17)) z17)) z17)) z17)) z17)) z17)) z17) z17)))) (.cut 22 (0) z36 (.cut 22 (1) z36 z36)))
def d0d:TrX Leaf:=(.cut 11 (0) z17 (.cut 11 (1) z29 z17))
def e2E:TrX Leaf:=.rel .i64 12 11 b8Q d0d
def d2z:CutP:=⟨some 0,(.nd (.nd z32 (some (.sint .i64 0)) (.nd z31 (some (.bool true)) z9)) (some .any) z33),z10,1,12,[(.sint .i64 12)],c7I,(a4S (a1c false)),e2E⟩
def d4Y:List KE:=[⟨40,[z1],[],(.bool false)⟩,⟨41,[z1],[],(.bool true)⟩,⟨83,[(.sym 33),(.sint .i64 22),(.sint .i64 0)],[],(.sint .i64 29)⟩]
def vdC:List CutP:=[c9E,a8w,d2z]
def c9F:Code:=match Try.f23.body with|some c=>c|none=>.skip
def a7Q(c:CutP):Ivs→List Fact→Leaf→Bool:=a7i Try.prog (a9K Try.prog d4Y 20000) Try.f23.ntmps [0] 1000 Try.f23.results.toList c9F vdC c
def c8Z:Ivs:=[a0C,a0C,(0,9223372036854775807)]
def d6W:TrX Leaf:=z13
def z37:TrX Leaf:=.cut 0 (2) (.cut 1 (-1) z13 (.cut 1 (40) (.cut 2 (32) z0 z14) z13)) z13
def d6V:TrX Leaf:=z37
def e2o:TrX Leaf:=.cut 0 (-1) d6W d6V
def z38:TT VV:=.nd z15 (some (.sym 0)) (.nd .lf (some (.sint .i64 1)) .lf)
def d3R:CutP:=⟨none,z38,.lf,0,10,[],c8Z,d7s,e2o⟩
def a7l:Ivs:=[(0,2),(0,40),(0,32),(0,32),(1,33),a0C,a0C,a0C,a0C]
def z39:TrX Leaf:=.leaf (.ret (.int .i64 (9)))
def c9q:TrX Leaf:=z39
def z40:TrX Leaf:=.leaf (.goto 1 [(.sint .i64 4)])
def z41:TrX Leaf:=.cut 8 (-1) z39 (.cut 8 (0) z40 z39)
def c1U:TrX Leaf:=(.cut 7 (-1000) z39 (.cut 7 (999) z41 z39))
def z42:TrX Leaf:=.cut 7 (-1) z39 (.cut 7 (0) z41 z39)
def b7k:TrX Leaf:=z42
def b4L:TrX Leaf:=z42
def b2g:TrX Leaf:=z42
def b0S:TrX Leaf:=z42
def z43:TrX Leaf:=.cut 7 (4) z39 (.cut 7 (7) z41 z39)
def a8o:TrX Leaf:=z43
def a7P:TrX Leaf:=(.cut 7 (-1) z39 (.rel .i64 7 0 z41 (.cut 7 (2) z39 (.cut 7 (3) z41 z39))))
def z44:TrX Leaf:=.cut 7 (-1) z39 (.rel .i64 2 7 z39 z41)
def a6G:TrX Leaf:=z44
def a5a:TrX Leaf:=z44
def a4o:TrX Leaf:=(.cut 7 (-1) z39 (.rel .i64 7 0 z41 (.cut 7 (1) z39 (.cut 7 (7) z41 z39))))
def z45:TrX Leaf:=.cut 7 (-1) z39 (.rel .i64 7 0 z41 (.cut 7 (2) z39 (.cut 7 (3) z41 (.cut 7 (4) z41 z39))))
def a4M:TrX Leaf:=z45
def a4A:TrX Leaf:=z45
def z46:TrX Leaf:=.cut 7 (-1) z39 (.rel .i64 7 0 z41 (.cut 7 (1) z39 (.cut 7 (2) z41 z43)))
def a3Z:TrX Leaf:=z46
def a3O:TrX Leaf:=z46
def z47:TrX Leaf:=.cut 8 (0) z39 (.cut 8 (127) z40 z39)
def z48:TrX Leaf:=.cut 8 (-1) z39 (.rel .i64 8 1 z40 z39)
def z49:TrX Leaf:=.cut 7 (-1) z39 (.rel .i64 7 0 z48 (.cut 7 (2) z39 (.cut 7 (3) z48 (.cut 7 (4) z48 z39))))
def a3N:TrX Leaf:=(.cut 6 (15) z46 (.cut 6 (16) z46 (.cut 6 (17) (.cut 7 (-1) z39 (.rel .i64 7 0 z47 (.cut 7 (1) z39 (.cut 7 (2) z47 (.cut 7 (4) z39 (.cut 7 (7) z47 z39)))))) (.cut 6 (18) z46 (.cut 6 (19) z46 (.cut 6 (20) (.cut 7 (-1) z39 (.rel .i64 7 0 z41 z39)) (.cut 6 (21) z49 (.cut 6 (22) (.cut 7 (-1) z39 (.cut 7 (3) z41 z39)) (.cut 6 (23) (.cut 7 (0) z39 (.cut 7 (999) z41 z39)) z42)))))))))
def a3Y:TrX Leaf:=.cut 6 (14) a3O a3N
def a3z:TrX Leaf:=.cut 6 (13) a3Z a3Y
def a4L:TrX Leaf:=.cut 6 (12) a4A a3z
def a4n:TrX Leaf:=.cut 6 (11) a4M a4L
def a5Z:TrX Leaf:=.cut 6 (10) a4o a4n
def a6F:TrX Leaf:=.cut 6 (9) a5a a5Z
def a7O:TrX Leaf:=.cut 6 (8) a6G a6F
def a8n:TrX Leaf:=.cut 6 (7) a7P a7O
def b0R:TrX Leaf:=.cut 6 (6) a8o a8n
def b2f:TrX Leaf:=.cut 6 (5) b0S b0R
def b4K:TrX Leaf:=.cut 6 (4) b2g b2f
def b7j:TrX Leaf:=.cut 6 (3) b4L b4K
def c1T:TrX Leaf:=.cut 6 (2) b7k b7j
def c5x:TrX Leaf:=.cut 6 (1) c1U c1T
def c5w:TrX Leaf:=z39
def c9p:TrX Leaf:=.cut 6 (24) c5x c5w
def b2h:TrX Leaf:=.cut 6 (0) c9q c9p
def d6U:TrX Leaf:=z29
def e2n:TrX Leaf:=.rel .i64 3 2 b2h d6U
def z50:TT VV:=.nd z30 (some .any) z30
def z51:TT VO:=.nd .lf (some (.cells [(.int .i64 (4))] none 0 none)) .lf
def z52:TT VO:=.nd .lf (some (.cells [(.int .i64 (2))] none 0 none)) .lf
def z53:TT VO:=.nd .lf (some (.cells [(.int .i64 (1))] none 0 none)) .lf
def a5c:CutP:=⟨some 0,(.nd (.nd (.nd (.nd z30 (some (.ptr (some ⟨(.loc 0),0⟩))) z30) (some .any) z31) (some .any) (.nd z50 (some .any) (.nd (.nd (.nd z6 (some (.sint .i64 2)) .lf) (some .any) z6) (some .any) z8))) (some .any) (.nd (.nd (.nd z30 (some (.ptr (some ⟨(.loc 1),0⟩))) z30) (some .any) (.nd (.nd (.nd z6 (some (.sym 0)) .lf) (some .any) z6) (some .any) z8)) (some .any) (.nd z50 (some (.int .i64 (0))) (.nd (.nd (.nd z6 (some (.sint .i64 3)) .lf) (some .any) z6) (some .any) z8)))),(.nd (.nd (.nd (.nd (.nd .lf (some (.cells [(.func (.func 92) [] []),(.func (.func 95) [] [(.ptr (some ⟨(.loc 8),0⟩)),(.ptr (some ⟨(.loc 9),0⟩))]),(.func (.func 95) [] [(.ptr (some ⟨(.loc 16),0⟩)),(.ptr (some ⟨(.loc 17),0⟩))])] none 0 none)) .lf) (some (.cells [(.func (.func 92) [] []),(.func (.func 95) [] [(.ptr (some ⟨(.loc 8),0⟩)),(.ptr (some ⟨(.loc 9),0⟩))])] none 0 none)) (.nd .lf (some (.cells [(.int .i64 (127))] none 0 none)) .lf)) (some (.cells [(.int .i64 (999))] none 0 none)) (.nd (.nd .lf (some (.cells [(.func (.func 92) [] []),(.func (.func 95) [] [(.ptr (some ⟨(.loc 20),0⟩)),(.ptr (some ⟨(.loc 21),0⟩))]),(.func (.func 95) [] [(.ptr (some ⟨(.loc 4),0⟩)),(.ptr (some ⟨(.loc 5),0⟩))])] none 0 none)) .lf) (some (.cells [(.func (.func 92) [] []),(.func (.func 95) [] [(.ptr (some ⟨(.loc 12),0⟩)),(.ptr (some ⟨(.loc 13),0⟩))])] none 0 none)) (.nd .lf (some (.cells [(.int .i64 (999))] none 0 none)) .lf))) (some (.cells [(.string ⟨#[63]⟩),.nilFunc,.nilFunc,(.string ⟨#[110,117,109]⟩),(.func (.func 95) [] [(.ptr (some ⟨(.loc 2),0⟩)),(.ptr (some ⟨(.loc 3),0⟩))]),.nilFunc,(.string ⟨#[97,100,100]⟩),.nilFunc,.nilFunc,(.string ⟨#[115,117,98]⟩),.nilFunc,.nilFunc,(.string ⟨#[109,117,108]⟩),.nilFunc,.nilFunc,(.string ⟨#[108,101,115,115]⟩),.nilFunc,.nilFunc,(.string ⟨#[99,111,117,110,116]⟩),(.func (.func 95) [] [(.ptr (some ⟨(.loc 4),0⟩)),(.ptr (some ⟨(.loc 5),0⟩))]),.nilFunc,(.string ⟨#[108,105,102,101]⟩),(.func (.func 96) [] [(.ptr (some ⟨(.loc 6),0⟩))]),.nilFunc,(.string ⟨#[106,117,109,112]⟩),(.func (.func 93) [] []),.nilFunc,(.string ⟨#[122,101,114,111]⟩),(.func (.func 93) [] []),.nilFunc,(.string ⟨#[104,117,114,116]⟩),(.func (.func 96) [] [(.ptr (some ⟨(.loc 10),0⟩))]),.nilFunc,(.string ⟨#[103,97,105,110]⟩),(.func (.func 96) [] [(.ptr (some ⟨(.loc 14),0⟩))]),.nilFunc,(.string ⟨#[100,114,97,119]⟩),(.func (.func 96) [] [(.ptr (some ⟨(.loc 14),0⟩))]),.nilFunc,(.string ⟨#[107,105,108,108]⟩),(.func (.func 96) [] [(.ptr (some ⟨(.loc 18),0⟩))]),.nilFunc,(.string ⟨#[98,111,117,110,99,101]⟩),(.func (.func 96) [] [(.ptr (some ⟨(.loc 18),0⟩))]),.nilFunc,(.string ⟨#[98,97,110,105,115,104]⟩),(.func (.func 96) [] [(.ptr (some ⟨(.loc 18),0⟩))]),.nilFunc,(.string ⟨#[112,117,109,112]⟩),(.func (.func 96) [] [(.ptr (some ⟨(.loc 18),0⟩))]),.nilFunc,(.string ⟨#[103,114,97,110,116]⟩),(.func (.func 96) [] [(.ptr (some ⟨(.loc 18),0⟩))]),(.func (.func 95) [] [(.ptr (some ⟨(.loc 22),0⟩)),(.ptr (some ⟨(.loc 23),0⟩))]),(.string ⟨#[116,97,112]⟩),(.func (.func 96) [] [(.ptr (some ⟨(.loc 18),0⟩))]),.nilFunc,(.string ⟨#[117,110,116,97,112]⟩),(.func (.func 96) [] [(.ptr (some ⟨(.loc 18),0⟩))]),.nilFunc,(.string ⟨#[99,111,117,110,116,101,114]⟩),(.func (.func 92) [] []),.nilFunc,(.string ⟨#[116,111,107,101,110]⟩),(.func (.func 96) [] [(.ptr (some ⟨(.loc 14),0⟩))]),(.func (.func 94) [] []),(.string ⟨#[109,97,110,97]⟩),(.func (.func 95) [] [(.ptr (some ⟨(.loc 24),0⟩)),(.ptr (some ⟨(.loc 25),0⟩))]),.nilFunc,(.string ⟨#[114,111,108,108]⟩),(.func (.func 95) [] [(.ptr (some ⟨(.loc 26),0⟩)),(.ptr (some ⟨(.loc 27),0⟩))]),.nilFunc,(.string ⟨#[101,110,100]⟩),.nilFunc,.nilFunc] none 0 (some 119))) (.nd (.nd z51 (some (.cells [(.int .i64 (3))] none 0 none)) (.nd .lf (some (.cells [(.int .i64 (3))] none 0 none)) .lf)) (some (.cells [(.int .i64 (7))] none 0 none)) (.nd z52 (some (.cells [(.int .i64 (7))] none 0 none)) .lf))) (some (.cells [(.sint .i64 2),(.sint .i64 0),(.sint .i64 1)] none 0 (some 115))) (.nd (.nd (.nd z51 (some (.cells [(.int .i64 (3))] none 0 none)) (.nd .lf (some (.cells [(.int .i64 (0))] none 0 none)) .lf)) (some (.cells [(.int .i64 (5))] none 0 none)) (.nd z52 (some (.cells [(.int .i64 (2))] none 0 none)) .lf)) (some (.cells [(.int .i64 (-999))] none 0 none)) (.nd (.nd (.nd .lf (some (.cells [(.slice (some ⟨(.loc 19),0⟩) 3 3)] none 0 none)) .lf) (some (.cells [(.slice (some ⟨(.loc 11),0⟩) 2 2)] none 0 none)) z53) (some (.cells [(.slice (some ⟨(.loc 7),0⟩) 2 2)] none 0 none)) (.nd z53 (some (.cells [(.slice (some ⟨(.loc 15),0⟩) 3 3)] none 0 none)) .lf)))),28,3,[(.sint .i64 3)],a7l,c3F,e2n⟩
def d7p:List KE:=[]
def ccC:List CutP:=[d3R,a5c]
def c9r:Code:=match Try.f83.body with|some c=>c|none=>.skip
def a5b(c:CutP):Ivs→List Fact→Leaf→Bool:=a7i Try.prog (a9K Try.prog d7p 20000) Try.f83.ntmps [0] 1000 Try.f83.results.toList c9r ccC c
def d5R:Ivs:=[a0C,a0C,a0C,a0C,a0C,a0C,a0C,a0C,a0C,a0C,(0,9223372036854775807),(0,9223372036854775807)]
def d5Q:TrX Leaf:=(.cut 1 (0) z5 (.cut 1 (1) (.cut 2 (-1) z5 (.cut 2 (20) (.cut 3 (-1) z5 (.cut 3 (20) (.cut 4 (-1) z5 (.cut 4 (20) (.cut 5 (-1) z5 (.cut 5 (20) (.cut 2 (0) (.cut 3 (0) (.cut 4 (0) (.cut 5 (0) (.cut 6 (-1) z5 (.cut 6 (3) (.cut 7 (-1) z5 (.cut 7 (15) (.cut 8 (-1) z5 (.cut 8 (15) (.cut 7 (0) (.cut 8 (0) (.cut 9 (-1) z5 (.cut 9 (0) z4 z5)) z5) z5) z5)) z5)) z5)) z5) z5) z5) z5) z5)) z5)) z5)) z5)) (.cut 1 (2) (.cut 2 (-1) z5 (.cut 2 (20) (.cut 3 (-1) z5 (.cut 3 (20) (.cut 4 (-1) z5 (.cut 4 (20) (.cut 5 (-1) z5 (.cut 5 (20) (.cut 6 (-1) z5 (.cut 6 (3) (.cut 6 (0) (.cut 7 (-1) z5 (.cut 7 (15) (.cut 8 (-1) z5 (.cut 8 (15) (.cut 9 (-1) z5 (.cut 9 (127) z4 z5)) z5)) z5)) z5) z5)) z5)) z5)) z5)) z5)) (.cut 1 (4) (.cut 2 (-1) z5 (.cut 2 (20) (.cut 3 (-1) z5 (.cut 3 (20) (.cut 4 (-1) z5 (.cut 4 (20) (.cut 5 (-1) z5 (.cut 5 (20) (.cut 6 (-1) z5 (.cut 6 (3) (.cut 6 (0) (.cut 7 (-1) z5 (.cut 7 (15) (.cut 8 (-1) z5 (.cut 8 (15) (.cut 7 (0) (.cut 8 (0) (.cut 9 (-1) z5 (.cut 9 (0) z4 (.cut 9 (63) z5 (.cut 9 (64) z4 z5)))) z5) z5) z5)) z5)) z5) z5)) z5)) z5)) z5)) z5)) z5))))
def d7N:CutP:=⟨none,z2,.lf,0,10,[],d5R,(c3L []),d5Q⟩
def d7O:List KE:=[]
def rbC:List CutP:=[d7N]
def c9U:Code:=match Try.f44.body with|some c=>c|none=>.skip
def e3Z(c:CutP):Ivs→List Fact→Leaf→Bool:=a7i Try.prog (a9K Try.prog d7O 20000) Try.f44.ntmps [] 1000 Try.f44.results.toList c9U rbC c
def c7A:Ivs:=[a0C,a0C,a0C,a0C,a0C,a0C,a0C,a0C,a0C,a0C,(0,9223372036854775807),(0,9223372036854775807)]
def d4N:TrX Leaf:=z13
def z54:TrX Leaf:=.cut 0 (40) (.cut 10 (16) (.cut 11 (4) z0 z19) z19) z13
def d4M:TrX Leaf:=z54
def e2D:TrX Leaf:=.cut 0 (-1) d4N d4M
def d2y:CutP:=⟨none,z16,.lf,0,10,[],c7A,(c3L (a1c true)),e2D⟩
def c6z:Ivs:=[a0C,a0C,a0C,a0C,a0C,a0C,a0C,a0C,a0C,a0C,(0,9223372036854775807),(0,9223372036854775807),(0,9223372036854775807),a0C,a0C,a0C,a0C,a0C,a0C,a0C,a0C,(0,1),(0,9223372036854775807),(0,9223372036854775807),a0C,a0C,a0C,a0C,a0C,(0,1000)]
def z55:TrX Leaf:=.cut 22 (2) (.cut 23 (32) z3 z34) z34
def d4L:TrX Leaf:=z55
def z56:TrX Leaf:=.leaf (.goto 3 [(.int .i64 (0))])
def z57:TrX Leaf:=.leaf (.goto 4 [(.int .i64 (0))])
def z58:TrX Leaf:=.cut 1 (2) z56 (.cut 1 (3) z57 z56)
def d4K:TrX Leaf:=z58
def e2C:TrX Leaf:=.rel .i64 12 11 d4L d4K
def z59:TT VV:=.nd z7 (some .any) z7
def z60:TT VV:=.nd z59 (some .any) z59
def z61:TT VV:=.nd z59 (some .any) z30
def z62:TT VV:=.nd (.nd z60 (some (.int .i64 (0))) z61) (some (.ptr (some ⟨(.loc 0),0⟩))) (.nd z60 (some (.sint .i64 12)) z61)
def z63:TT VV:=.nd (.nd (.nd z60 (some .any) z60) (some (.sint .i64 0)) (.nd z60 (some (.bool false)) z61)) (some .any) z62
def d2x:CutP:=⟨some 0,z63,z10,1,12,[(.sint .i64 12)],c6z,(a4S (a1c true)),e2C⟩
def c6y:Ivs:=[a0C,a0C,a0C,a0C,a0C,a0C,a0C,a0C,a0C,a0C,(0,9223372036854775807),(0,9223372036854775807),(0,9223372036854775807),a0C,a0C,a0C,a0C,a0C,a0C,a0C,a0C,(0,1),(0,9223372036854775807),(0,9223372036854775807),a0C,a0C,a0C,a0C,a0C,(0,1000)]
def d4J:TrX Leaf:=z34
def d4I:TrX Leaf:=z14
def e2B:TrX Leaf:=.rel .i64 12 11 d4J d4I
def z64:TT VV:=.nd (.nd (.nd z60 (some .any) z60) (some (.sint .i64 0)) (.nd z60 (some (.bool true)) z61)) (some .any) z62
def d4Q:CutP:=⟨some 0,z64,z10,1,12,[(.sint .i64 12)],c6y,(a4S (a1c true)),e2B⟩
def c6x:Ivs:=[a0C,a0C,a0C,a0C,a0C,a0C,a0C,a0C,a0C,a0C,(0,9223372036854775807),(0,9223372036854775807),(0,9223372036854775807),a0C,a0C,a0C,a0C,a0C,a0C,a0C,a0C,(0,1),(0,2),(0,32),a0C,a0C,a0C,a0C,a0C,(0,1000)]
def z65:TrX Leaf:=.leaf (.goto 3 [(.sint .i64 13)])
def z66:TrX Leaf:=.cut 22 (0) z65 (.cut 22 (1) z65 z65)
def d0a:TrX Leaf:=(.cut 21 (0) z66 z66)
def d4H:TrX Leaf:=z17
def e2A:TrX Leaf:=.rel .i64 12 11 d0a d4H
def z67:TT VV:=.nd z59 (some (.bool false)) z59
def z68:TT VV:=.nd (.nd z59 (some (.sint .i64 12)) z59) (some .any) z61
def z69:TT VV:=.nd (.nd z67 (some .any) z60) (some (.sint .i64 0)) z68
def z70:TT VV:=.nd (.nd z67 (some (.int .i64 (0))) z61) (some (.ptr (some ⟨(.loc 0),0⟩))) (.nd z60 (some .any) z61)
def z71:TT VV:=.nd z69 (some .any) z70
def d4P:CutP:=⟨some 1,z71,z10,1,12,[(.sint .i64 12)],c6x,(a4S (a1c true)),e2A⟩
def c6w:Ivs:=[a0C,a0C,a0C,a0C,a0C,a0C,a0C,a0C,a0C,a0C,(0,9223372036854775807),(0,9223372036854775807),(0,9223372036854775807),a0C,a0C,a0C,a0C,a0C,a0C,a0C,a0C,(0,1),(0,2),(0,32),a0C,a0C,a0C,a0C,a0C,(0,1000)]
def z72:TrX Leaf:=.leaf (.goto 4 [(.sint .i64 13)])
def z73:TrX Leaf:=.cut 22 (0) z72 (.cut 22 (1) z72 z72)
def z74:TrX Leaf:=.cut 21 (0) z73 z73
def d0Z:TrX Leaf:=z74
def d4G:TrX Leaf:=z17
def e1z:TrX Leaf:=.rel .i64 12 11 d0Z d4G
def z75:TT VV:=.nd z59 (some (.bool true)) z59
def z76:TT VV:=.nd (.nd z75 (some .any) z60) (some (.sint .i64 0)) z68
def z77:TT VV:=.nd z76 (some .any) z70
def d4O:CutP:=⟨some 1,z77,z10,1,12,[(.sint .i64 12)],c6w,(a4S (a1c true)),e1z⟩
def d7C:List KE:=[]
def waC:List CutP:=[d2y,d2x,d4Q,d4P,d4O]
def c8z:Code:=match Try.f25.body with|some c=>c|none=>.skip
def b8P(c:CutP):Ivs→List Fact→Leaf→Bool:=a7i Try.prog (a9K Try.prog d7C 20000) Try.f25.ntmps [0,1] 1000 Try.f25.results.toList c8z waC c
def c6v:Ivs:=[a0C,a0C,a0C,a0C,a0C,a0C,a0C,a0C,a0C,a0C,(0,9223372036854775807),(0,9223372036854775807)]
def d4A:TrX Leaf:=z13
def d3z:TrX Leaf:=z54
def e1y:TrX Leaf:=.cut 0 (-1) d4A d3z
def d2w:CutP:=⟨none,z16,.lf,0,10,[],c6v,(c3L (a1c false)),e1y⟩
def c6u:Ivs:=[a0C,a0C,a0C,a0C,a0C,a0C,a0C,a0C,a0C,a0C,(0,9223372036854775807),(0,9223372036854775807),(0,9223372036854775807),a0C,a0C,a0C,a0C,a0C,a0C,a0C,a0C,(0,1),(0,9223372036854775807),(0,9223372036854775807),a0C,a0C,a0C,a0C,a0C,(0,1000)]
def d3y:TrX Leaf:=z55
def d3x:TrX Leaf:=z58
def e1x:TrX Leaf:=.rel .i64 12 11 d3y d3x
def d2v:CutP:=⟨some 0,z63,z10,1,12,[(.sint .i64 12)],c6u,(a4S (a1c false)),e1x⟩
def c6t:Ivs:=[a0C,a0C,a0C,a0C,a0C,a0C,a0C,a0C,a0C,a0C,(0,9223372036854775807),(0,9223372036854775807),(0,9223372036854775807),a0C,a0C,a0C,a0C,a0C,a0C,a0C,a0C,(0,1),(0,9223372036854775807),(0,9223372036854775807),a0C,a0C,a0C,a0C,a0C,(0,1000)]
def d3w:TrX Leaf:=z34
def d3v:TrX Leaf:=z14
def e1w:TrX Leaf:=.rel .i64 12 11 d3w d3v
def d4D:CutP:=⟨some 0,z64,z10,1,12,[(.sint .i64 12)],c6t,(a4S (a1c false)),e1w⟩
def c6s:Ivs:=[a0C,a0C,a0C,a0C,a0C,a0C,a0C,a0C,a0C,a0C,(0,9223372036854775807),(0,9223372036854775807),(0,9223372036854775807),a0C,a0C,a0C,a0C,a0C,a0C,a0C,a0C,(0,1),(0,2),(0,32),a0C,a0C,a0C,a0C,a0C,(0,1000)]
def d0X:TrX Leaf:=(.cut 21 (0) z66 z66)
def d3u:TrX Leaf:=z17
def e1v:TrX Leaf:=.rel .i64 12 11 d0X d3u
def d4C:CutP:=⟨some 1,z71,z10,1,12,[(.sint .i64 12)],c6s,(a4S (a1c false)),e1v⟩
def c6r:Ivs:=[a0C,a0C,a0C,a0C,a0C,a0C,a0C,a0C,a0C,a0C,(0,9223372036854775807),(0,9223372036854775807),(0,9223372036854775807),a0C,a0C,a0C,a0C,a0C,a0C,a0C,a0C,(0,1),(0,2),(0,32),a0C,a0C,a0C,a0C,a0C,(0,1000)]
def d0W:TrX Leaf:=z74
def d3t:TrX Leaf:=z17
def e1u:TrX Leaf:=.rel .i64 12 11 d0W d3t
def d4B:CutP:=⟨some 1,z77,z10,1,12,[(.sint .i64 12)],c6r,(a4S (a1c false)),e1u⟩
def d4F:List KE:=[⟨44,[z1],[],(.bool false)⟩]
def wbC:List CutP:=[d2w,d2v,d4D,d4C,d4B]
def c8y:Code:=match Try.f25.body with|some c=>c|none=>.skip
def b8O(c:CutP):Ivs→List Fact→Leaf→Bool:=a7i Try.prog (a9K Try.prog d4F 20000) Try.f25.ntmps [0,1] 1000 Try.f25.results.toList c8y wbC c
def c6p:Ivs:=[a0C,a0C,a0C,a0C,a0C,a0C,a0C,a0C,a0C,a0C,(0,9223372036854775807),(0,9223372036854775807)]
def d3l:TrX Leaf:=z13
def d3k:TrX Leaf:=z54
def e1t:TrX Leaf:=.cut 0 (-1) d3l d3k
def d2u:CutP:=⟨none,z16,.lf,0,10,[],c6p,(c3L (a1c false)),e1t⟩
def c6o:Ivs:=[a0C,a0C,a0C,a0C,a0C,a0C,a0C,a0C,a0C,a0C,(0,9223372036854775807),(0,9223372036854775807),(0,9223372036854775807),a0C,a0C,a0C,a0C,a0C,a0C,a0C,a0C,(0,1),(0,9223372036854775807),(0,9223372036854775807),a0C,a0C,a0C,a0C,a0C,(0,1000)]
def d3j:TrX Leaf:=z55
def c6c:TrX Leaf:=(.cut 1 (2) z56 (.cut 1 (3) (.cut 11 (0) z57 (.cut 11 (1) (.leaf (.goto 5 [(.int .i64 (0))])) z57)) z56))
def e1s:TrX Leaf:=.rel .i64 12 11 d3j c6c
def c6q:CutP:=⟨some 0,z63,z10,1,12,[(.sint .i64 12)],c6o,(a4S (a1c false)),e1s⟩
def c6n:Ivs:=[a0C,a0C,a0C,a0C,a0C,a0C,a0C,a0C,a0C,a0C,(0,9223372036854775807),(0,9223372036854775807),(0,9223372036854775807),a0C,a0C,a0C,a0C,a0C,a0C,a0C,a0C,(0,1),(0,9223372036854775807),(0,9223372036854775807),a0C,a0C,a0C,a0C,a0C,(0,1000)]
def d3i:TrX Leaf:=z34
def d3h:TrX Leaf:=z14
def e1r:TrX Leaf:=.rel .i64 12 11 d3i d3h
def d3q:CutP:=⟨some 0,z64,z10,1,12,[(.sint .i64 12)],c6n,(a4S (a1c false)),e1r⟩
def b2z:Ivs:=[a0C,a0C,a0C,a0C,a0C,a0C,a0C,a0C,a0C,a0C,(0,9223372036854775807),(0,9223372036854775807),(0,9223372036854775807),a0C,a0C,a0C,a0C,a0C,a0C,a0C,a0C,(0,1),(0,2),(0,32),a0C,a0C,a0C,a0C,a0C,(0,1000)]
def z78:TrX Leaf:=.leaf (.goto 6 [(.sint .i64 13)])
def z79:TrX Leaf:=.cut 24 (-1) z78 (.cut 24 (0) (.cut 25 (-1) z78 (.cut 25 (0) (.cut 26 (-1) z78 (.cut 26 (0) z78 z78)) z78)) z78)
def z80:TrX Leaf:=.cut 29 (0) z79 z79
def c0E:TrX Leaf:=z80
def b6J:TrX Leaf:=z78
def z81:TrX Leaf:=.cut 23 (0) (.cut 17 (-1) z78 (.cut 17 (0) (.cut 18 (-1) z78 (.cut 18 (0) (.cut 19 (-1) z78 (.cut 19 (0) (.cut 20 (-1) z78 (.cut 20 (0) (.cut 15 (-1) z78 (.cut 15 (0) (.cut 16 (-1) z78 (.cut 16 (3) z78 z78)) z78)) z78)) z78)) z78)) z78)) z78
def z82:TrX Leaf:=.cut 17 (-1) z78 (.cut 17 (0) (.cut 18 (-1) z78 (.cut 18 (0) (.cut 19 (-1) z78 (.cut 19 (0) (.cut 20 (-1) z78 (.cut 20 (0) z78 z78)) z78)) z78)) z78)
def z83:TrX Leaf:=.cut 14 (5) (.cut 23 (0) z82 z78) z78
def z84:TrX Leaf:=.cut 14 (2) z78 (.cut 14 (3) z78 (.cut 14 (4) z81 z83))
def b1L:TrX Leaf:=z84
def z85:TrX Leaf:=.cut 16 (-1) z78 (.cut 16 (0) z78 z78)
def z86:TrX Leaf:=.cut 16 (-1) z78 (.cut 16 (1) z78 z78)
def z87:TrX Leaf:=.cut 14 (2) z78 (.cut 14 (3) z78 (.cut 14 (4) z81 (.cut 14 (5) (.cut 23 (0) (.cut 17 (-1) z78 (.cut 17 (0) (.cut 18 (-1) z78 (.cut 18 (0) (.cut 19 (-1) z78 (.cut 19 (0) (.cut 20 (-1) z78 (.cut 20 (0) (.cut 26 (-1) z78 (.cut 26 (0) (.cut 15 (0) z78 (.cut 15 (1) z85 (.cut 15 (2) z86 (.cut 15 (3) z85 (.cut 15 (4) z86 z78))))) z78)) z78)) z78)) z78)) z78)) z78) z78)))
def a7y:TrX Leaf:=z87
def a5o:TrX Leaf:=z84
def z88:TrX Leaf:=.cut 15 (-1) z78 (.cut 15 (0) (.cut 16 (-1) z78 (.cut 16 (0) (.cut 17 (-1) z78 (.cut 17 (20) (.cut 18 (-1) z78 (.cut 18 (20) (.cut 19 (-1) z78 (.cut 19 (20) (.cut 20 (-1) z78 (.cut 20 (20) z65 z78)) z78)) z78)) z78)) z78)) z78)
def z89:TrX Leaf:=.cut 16 (-1) z78 (.cut 16 (1) z65 z78)
def z90:TrX Leaf:=.cut 14 (4) z81 (.cut 14 (5) (.cut 23 (0) (.cut 17 (-1) z78 (.cut 17 (0) (.cut 18 (-1) z78 (.cut 18 (0) (.cut 19 (-1) z78 (.cut 19 (0) (.cut 20 (-1) z78 (.cut 20 (0) (.cut 15 (0) z78 (.cut 15 (1) z85 (.cut 15 (2) z89 (.cut 15 (3) (.cut 16 (-1) z78 (.cut 16 (0) z65 z78)) (.cut 15 (4) z89 z78))))) z78)) z78)) z78)) z78)) z78) z78)
def a5R:TrX Leaf:=(.cut 14 (2) z88 (.cut 14 (3) (.cut 15 (0) z78 (.cut 15 (6) (.cut 16 (-1) z78 (.cut 16 (2) (.cut 17 (-1) z78 (.cut 17 (0) (.cut 18 (-1) z78 (.cut 18 (0) (.cut 19 (-1) z78 (.cut 19 (0) (.cut 20 (-1) z78 (.cut 20 (0) z65 z78)) z78)) z78)) z78)) z78)) z78)) z90))
def a5Q:TrX Leaf:=z84
def a5n:TrX Leaf:=.cut 26 (0) a5R a5Q
def a7A:TrX Leaf:=.cut 26 (-1) a5o a5n
def z91:TrX Leaf:=.cut 16 (-1) z78 (.cut 16 (0) (.cut 25 (999) z65 z78) z78)
def z92:TrX Leaf:=.cut 14 (2) z78 (.cut 14 (3) z78 (.cut 14 (4) z81 (.cut 14 (5) (.cut 23 (0) (.cut 17 (-1) z78 (.cut 17 (0) (.cut 18 (-1) z78 (.cut 18 (0) (.cut 19 (-1) z78 (.cut 19 (0) (.cut 20 (-1) z78 (.cut 20 (0) (.cut 26 (-1) z78 (.cut 26 (0) (.cut 15 (0) z78 (.cut 15 (1) z91 (.cut 15 (2) z86 (.cut 15 (3) z91 (.cut 15 (4) z86 z78))))) z78)) z78)) z78)) z78)) z78)) z78) z78)))
def a6z:TrX Leaf:=z92
def a7x:TrX Leaf:=.cut 25 (0) a7A a6z
def a9s:TrX Leaf:=.cut 25 (-1) a7y a7x
def z93:TrX Leaf:=.cut 25 (0) z78 (.cut 25 (127) (.cut 26 (-1) z78 (.cut 26 (0) z65 z78)) z78)
def z94:TrX Leaf:=.cut 14 (2) z78 (.cut 14 (3) z78 (.cut 14 (4) (.cut 23 (0) (.cut 17 (-1) z78 (.cut 17 (0) (.cut 18 (-1) z78 (.cut 18 (0) (.cut 19 (-1) z78 (.cut 19 (0) (.cut 20 (-1) z78 (.cut 20 (0) (.cut 15 (-1) z78 (.cut 15 (0) (.cut 16 (-1) z78 (.cut 16 (3) (.cut 24 (1) z93 (.cut 24 (2) z93 (.cut 24 (3) (.cut 25 (-1) z78 (.cut 25 (15) (.cut 26 (-1) z78 (.cut 26 (15) z65 z78)) z78)) (.cut 24 (4) (.cut 25 (-16) z78 (.cut 25 (15) (.cut 26 (-16) z78 (.cut 26 (15) z65 z78)) z78)) z78)))) z78)) z78)) z78)) z78)) z78)) z78)) z78) z83))
def a9r:TrX Leaf:=z94
def b1K:TrX Leaf:=.cut 24 (0) a9s a9r
def b3d:TrX Leaf:=.cut 24 (-1) b1L b1K
def b1J:TrX Leaf:=z84
def a7w:TrX Leaf:=z87
def a5m:TrX Leaf:=z84
def a5l:TrX Leaf:=(.cut 26 (0) (.cut 14 (2) z78 (.cut 14 (3) z78 z90)) z84)
def a6y:TrX Leaf:=.cut 26 (-1) a5m a5l
def a6x:TrX Leaf:=z92
def a7v:TrX Leaf:=.cut 25 (0) a6y a6x
def a9q:TrX Leaf:=.cut 25 (-1) a7w a7v
def a9p:TrX Leaf:=z94
def b1I:TrX Leaf:=.cut 24 (0) a9q a9p
def b3c:TrX Leaf:=.cut 24 (-1) b1J b1I
def b6I:TrX Leaf:=.cut 29 (0) b3d b3c
def c0D:TrX Leaf:=.cut 14 (1) b6J b6I
def c3S:TrX Leaf:=.cut 14 (0) c0E c0D
def z95:TrX Leaf:=.cut 14 (3) z78 (.cut 14 (4) z78 (.cut 14 (5) z78 z78))
def z96:TrX Leaf:=.cut 14 (2) z78 z95
def z97:TrX Leaf:=.cut 24 (-1) z96 (.cut 24 (0) (.cut 25 (-1) z96 (.cut 25 (0) (.cut 26 (-1) z96 (.cut 26 (0) z96 z96)) z96)) z96)
def z98:TrX Leaf:=.cut 14 (0) z80 (.cut 14 (1) z78 (.cut 29 (0) (.cut 24 (-1) z96 (.cut 24 (0) (.cut 25 (-1) z96 (.cut 25 (0) (.cut 26 (-1) z96 (.cut 26 (0) (.cut 14 (2) (.cut 27 (0) z78 (.cut 27 (6) z88 z78)) z95) z96)) z96)) z96)) z97))
def c0C:TrX Leaf:=z98
def z99:TrX Leaf:=.cut 14 (0) z80 (.cut 14 (1) z78 (.cut 29 (0) (.cut 24 (-1) z96 (.cut 24 (0) (.cut 25 (-1) z96 (.cut 25 (0) (.cut 26 (-1) z96 (.cut 26 (0) (.cut 14 (2) (.cut 27 (0) z78 (.cut 27 (6) (.cut 28 (0) z78 (.cut 28 (6) z88 z78)) z78)) z95) z96)) z96)) z96)) z97))
def c0B:TrX Leaf:=z99
def c3R:TrX Leaf:=.cut 22 (1) c0C c0B
def c8u:TrX Leaf:=.cut 22 (0) c3S c3R
def c0A:TrX Leaf:=z80
def b6H:TrX Leaf:=z78
def e1m:TrX Leaf:=.cut 14 (4) (.cut 23 (0) z82 z78) z83
def c1p:TrX Leaf:=.cut 14 (2) z78 (.cut 14 (3) z78 e1m)
def b1H:TrX Leaf:=c1p
def a7u:TrX Leaf:=c1p
def a5k:TrX Leaf:=c1p
def a5j:TrX Leaf:=(.cut 26 (0) (.cut 14 (2) z88 (.cut 14 (3) (.cut 15 (0) z78 (.cut 15 (6) (.cut 16 (-1) z78 (.cut 16 (2) z82 z78)) z78)) e1m)) c1p)
def a6w:TrX Leaf:=.cut 26 (-1) a5k a5j
def a6v:TrX Leaf:=c1p
def a7t:TrX Leaf:=.cut 25 (0) a6w a6v
def a9o:TrX Leaf:=.cut 25 (-1) a7u a7t
def a9n:TrX Leaf:=c1p
def b1G:TrX Leaf:=.cut 24 (0) a9o a9n
def b3b:TrX Leaf:=.cut 24 (-1) b1H b1G
def b1F:TrX Leaf:=c1p
def a7s:TrX Leaf:=c1p
def a7r:TrX Leaf:=(.cut 25 (0) (.cut 26 (-1) c1p (.cut 26 (0) c1p c1p)) c1p)
def a9m:TrX Leaf:=.cut 25 (-1) a7s a7r
def a9l:TrX Leaf:=c1p
def b1E:TrX Leaf:=.cut 24 (0) a9m a9l
def b3a:TrX Leaf:=.cut 24 (-1) b1F b1E
def b6G:TrX Leaf:=.cut 29 (0) b3b b3a
def b9z:TrX Leaf:=.cut 14 (1) b6H b6G
def c3Q:TrX Leaf:=.cut 14 (0) c0A b9z
def b9y:TrX Leaf:=z98
def b9x:TrX Leaf:=z99
def c3P:TrX Leaf:=.cut 22 (1) b9y b9x
def c8t:TrX Leaf:=.cut 22 (0) c3Q c3P
def c3T:TrX Leaf:=.cut 21 (0) c8u c8t
def d3g:TrX Leaf:=z29
def e1q:TrX Leaf:=.rel .i64 12 11 c3T d3g
def e1l:TT VV:=.nd (.nd z75 (some (.int .i64 (0))) z61) (some (.ptr (some ⟨(.loc 0),0⟩))) (.nd z60 (some .any) z61)
def a2M:CutP:=⟨some 1,(.nd z69 (some .any) e1l),z10,1,12,[(.sint .i64 12)],b2z,(a4S (a1c false)),e1q⟩
def c6m:Ivs:=[a0C,a0C,a0C,a0C,a0C,a0C,a0C,a0C,a0C,a0C,(0,9223372036854775807),(0,9223372036854775807),(0,9223372036854775807),a0C,a0C,a0C,a0C,a0C,a0C,a0C,a0C,(0,1),(0,2),(0,32),a0C,a0C,a0C,a0C,a0C,(0,1000)]
def d0L:TrX Leaf:=z74
def d3f:TrX Leaf:=z17
def e1p:TrX Leaf:=.rel .i64 12 11 d0L d3f
def c8w:CutP:=⟨some 1,z77,z10,1,12,[(.sint .i64 12)],c6m,(a4S (a1c false)),e1p⟩
def c1u:Ivs:=[a0C,a0C,a0C,a0C,a0C,a0C,a0C,a0C,a0C,a0C,(0,9223372036854775807),(0,9223372036854775807),(0,9223372036854775807),a0C,a0C,a0C,a0C,a0C,a0C,a0C,a0C,(0,1),(0,2),(0,32),a0C,a0C,a0C,a0C,a0C,(0,1000)]
def d8c:TrX Leaf:=.cut 15 (-1) z72 (.cut 15 (0) (.cut 16 (-1) z72 (.cut 16 (0) (.cut 17 (-1) z72 (.cut 17 (0) (.cut 18 (-1) z72 (.cut 18 (0) (.cut 19 (-1) z72 (.cut 19 (0) (.cut 20 (-1) z72 (.cut 20 (0) (.leaf (.goto 5 [(.sint .i64 13)])) z72)) z72)) z72)) z72)) z72)) z72)
def d2t:TrX Leaf:=.cut 24 (-1) z72 (.cut 24 (0) (.cut 25 (-1) z72 (.cut 25 (0) (.cut 26 (-1) z72 (.cut 26 (0) z72 z72)) z72)) z72)
def c8s:TrX Leaf:=(.cut 22 (0) (.cut 14 (0) z72 (.cut 14 (1) (.cut 29 (0) (.cut 24 (-1) z72 (.cut 24 (0) (.cut 25 (-1) z72 (.cut 25 (0) (.cut 26 (-1) z72 (.cut 26 (0) d8c z72)) z72)) z72)) d2t) z72)) (.cut 22 (1) (.cut 14 (0) z72 (.cut 14 (1) (.cut 29 (0) (.cut 24 (-1) z72 (.cut 24 (0) (.cut 25 (-1) z72 (.cut 25 (0) (.cut 26 (-1) z72 (.cut 26 (0) (.cut 27 (0) z72 (.cut 27 (6) d8c z72)) z72)) z72)) z72)) d2t) z72)) (.cut 14 (0) z72 (.cut 14 (1) (.cut 29 (0) (.cut 24 (-1) z72 (.cut 24 (0) (.cut 25 (-1) z72 (.cut 25 (0) (.cut 26 (-1) z72 (.cut 26 (0) (.cut 27 (0) z72 (.cut 27 (6) (.cut 28 (0) z72 (.cut 28 (6) d8c z72)) z72)) z72)) z72)) z72)) d2t) z72))))
def d8b:TrX Leaf:=.cut 15 (-1) z72 (.cut 15 (0) (.cut 16 (-1) z72 (.cut 16 (0) (.cut 17 (-1) z72 (.cut 17 (0) (.cut 18 (-1) z72 (.cut 18 (0) (.cut 19 (-1) z72 (.cut 19 (0) (.cut 20 (-1) z72 (.cut 20 (0) z72 z72)) z72)) z72)) z72)) z72)) z72)
def c8r:TrX Leaf:=(.cut 22 (0) (.cut 14 (0) z72 (.cut 14 (1) (.cut 29 (0) (.cut 24 (-1) z72 (.cut 24 (0) (.cut 25 (-1) z72 (.cut 25 (0) (.cut 26 (-1) z72 (.cut 26 (0) d8b z72)) z72)) z72)) d2t) z72)) (.cut 22 (1) (.cut 14 (0) z72 (.cut 14 (1) (.cut 29 (0) (.cut 24 (-1) z72 (.cut 24 (0) (.cut 25 (-1) z72 (.cut 25 (0) (.cut 26 (-1) z72 (.cut 26 (0) (.cut 27 (0) z72 (.cut 27 (6) d8b z72)) z72)) z72)) z72)) d2t) z72)) (.cut 14 (0) z72 (.cut 14 (1) (.cut 29 (0) (.cut 24 (-1) z72 (.cut 24 (0) (.cut 25 (-1) z72 (.cut 25 (0) (.cut 26 (-1) z72 (.cut 26 (0) (.cut 27 (0) z72 (.cut 27 (6) (.cut 28 (0) z72 (.cut 28 (6) d8b z72)) z72)) z72)) z72)) z72)) d2t) z72))))
def c3O:TrX Leaf:=.cut 21 (0) c8s c8r
def d3e:TrX Leaf:=z29
def e1o:TrX Leaf:=.rel .i64 12 11 c3O d3e
def c8v:CutP:=⟨some 1,(.nd z76 (some .any) e1l),z10,1,12,[(.sint .i64 12)],c1u,(a4S (a1c false)),e1o⟩
def c6l:Ivs:=[a0C,a0C,a0C,a0C,a0C,a0C,a0C,a0C,a0C,a0C,(0,9223372036854775807),(0,9223372036854775807),(0,9223372036854775807),a0C,a0C,a0C,a0C,a0C,a0C,a0C,a0C,(0,1),(0,2),(0,32),a0C,a0C,a0C,a0C,a0C,(0,1000)]
def e1k:TrX Leaf:=.cut 22 (0) z78 (.cut 22 (1) z78 z78)
def d0K:TrX Leaf:=(.cut 21 (0) e1k e1k)
def d3d:TrX Leaf:=z17
def e1n:TrX Leaf:=.rel .i64 12 11 d0K d3d
def d0Q:CutP:=⟨some 1,z71,z10,1,12,[(.sint .i64 12)],c6l,(a4S (a1c false)),e1n⟩
def d3s:List KE:=[⟨44,[z1],[],(.bool true)⟩,⟨64,[(.sym 33),(.sint .i64 22),(.sint .i64 0)],[],(.sint .i64 29)⟩]
def wcC:List CutP:=[d2u,c6q,d3q,a2M,c8w,c8v,d0Q]
def c8x:Code:=match Try.f25.body with|some c=>c|none=>.skip
def a1O(c:CutP):Ivs→List Fact→Leaf→Bool:=a7i Try.prog (a9K Try.prog d3s 20000) Try.f25.ntmps [0,1] 1000 Try.f25.results.toList c8x wcC c
def c7U:Ivs:=[a0C,a0C,(0,9223372036854775807)]
def d5A:TrX Leaf:=z13
def d4z:TrX Leaf:=z37
def e2M:TrX Leaf:=.cut 0 (-1) d5A d4z
def d3D:CutP:=⟨none,z38,.lf,0,10,[],c7U,d7s,e2M⟩
def c2M:Ivs:=[(0,2),(0,40),(0,32),(0,32),(1,33),a0C,a0C,a0C,a0C]
def d3a:TrX Leaf:=.cut 7 (-1) z39 (.cut 7 (0) z40 z39)
def d8a:TrX Leaf:=.cut 7 (7) z40 z39
def e1j:TrX Leaf:=.cut 7 (-1) z39 (.rel .i64 2 7 z39 z40)
def e1i:TrX Leaf:=.cut 7 (-1) z39 (.rel .i64 7 0 z40 (.cut 7 (2) z39 (.cut 7 (3) z40 (.cut 7 (4) z40 z39))))
def d2s:TrX Leaf:=.cut 7 (-1) z39 (.rel .i64 7 0 z40 (.cut 7 (1) z39 (.cut 7 (2) z40 (.cut 7 (4) z39 (.cut 7 (5) z40 (.cut 7 (6) z40 d8a))))))
def c9R:TrX Leaf:=(.cut 8 (-1) z39 (.cut 8 (0) (.cut 6 (0) z39 (.cut 6 (1) (.cut 7 (-1000) z39 (.cut 7 (999) z40 z39)) (.cut 6 (2) d3a (.cut 6 (3) d3a (.cut 6 (4) d3a (.cut 6 (5) d3a (.cut 6 (6) (.cut 7 (4) z39 d8a) (.cut 6 (7) (.cut 7 (-1) z39 (.rel .i64 7 0 z40 (.cut 7 (2) z39 (.cut 7 (3) z40 z39)))) (.cut 6 (8) e1j (.cut 6 (9) e1j (.cut 6 (10) (.cut 7 (-1) z39 (.rel .i64 7 0 z40 (.cut 7 (1) z39 d8a))) (.cut 6 (11) e1i (.cut 6 (12) e1i (.cut 6 (13) d2s (.cut 6 (14) d2s (.cut 6 (15) d2s d2s)))))))))))))))) z39))
def c9Q:TrX Leaf:=(.cut 6 (17) (.cut 7 (-1) z39 (.rel .i64 7 0 z47 (.cut 7 (1) z39 (.cut 7 (2) z47 (.cut 7 (4) z39 (.cut 7 (5) z47 (.cut 7 (6) z47 (.cut 7 (7) z47 z39)))))))) (.cut 6 (20) (.cut 8 (-1) z39 (.cut 8 (0) (.cut 6 (18) d2s (.cut 6 (19) d2s (.cut 7 (-1) z39 (.rel .i64 7 0 z40 z39)))) z39)) (.cut 6 (21) z49 (.cut 8 (-1) z39 (.cut 8 (0) (.cut 6 (23) (.cut 6 (22) (.cut 7 (-1) z39 (.cut 7 (3) z40 z39)) (.cut 7 (0) z39 (.cut 7 (999) z40 z39))) (.cut 6 (24) d3a z39)) z39)))))
def c4H:TrX Leaf:=.cut 6 (16) c9R c9Q
def d4y:TrX Leaf:=z29
def e2L:TrX Leaf:=.rel .i64 3 2 c4H d4y
def d1B:CutP:=⟨some 0,(.nd (.nd (.nd (.nd z7 (some (.sint .i64 3)) z7) (some .any) z30) (some (.sint .i64 0)) z50) (some (.sym 0)) (.nd z61 (some (.sint .i64 1)) (.nd z30 (some (.int .i64 (0))) z30))),.lf,0,3,[(.sint .i64 3)],c2M,c3F,e2L⟩
def d7L:List KE:=[]
def rzC:List CutP:=[d3D,d1B]
def c9T:Code:=match Try.f64.body with|some c=>c|none=>.skip
def c9S(c:CutP):Ivs→List Fact→Leaf→Bool:=a7i Try.prog (a9K Try.prog d7L 20000) Try.f64.ntmps [0] 1000 Try.f64.results.toList c9T rzC c
end
end Go.Proofs.Ytmmmknhdigapkaa.plq
namespace Go.Proofs.Ytmmmknhdigapkaa.plq
open Go.Ev Go.RowKit
set_option linter.unusedVariables false
noncomputable section
def a0s:List Fact:=.bin .lss (.sint .i64 12) (.sint .i64 11) (.bool true)::[]
theorem d9N:a0L (a7Q d2z) b8Q c7I a0s=true:=by kernel_rfl
def d8Z:Ivs:=a0a (a0a b2z 21 (0)) 22 (0)
def d7B:Ivs:=a0R (a0R d8Z 14 (0+1)) 14 (1+1)
def d8Y:Ivs:=a0R (a0a d7B 29 (0)) 24 (-1+1)
def d8X:Ivs:=a0R (a0a d8Y 24 (0)) 25 (-1+1)
def e1h:Ivs:=a0R (a0a d8X 25 (0)) 26 (-1+1)
theorem b0Z:a0L (a1O a2M) a5R (a0a e1h 26 (0)) a0s=true:=by kernel_rfl
def e1g:Ivs:=a0R (a0a a1t 21 (0)) 22 (0+1)
theorem c7E:a0L (a7Q a8w) c0K (a0R e1g 22 (1+1)) a0s=true:=by kernel_rfl
def d8W:Ivs:=a0a (a0a a1t 21 (0)) 22 (0)
def d8V:Ivs:=a0a (a0R d8W 14 (0+1)) 14 (5)
def d8U:Ivs:=a0R (a0R d8V 14 (1+1)) 14 (2+1)
theorem b4a:a0L (a7Q a8w) a8A (a0a (a0R d8U 14 (3+1)) 14 (4)) a0s=true:=by kernel_rfl
theorem b2x:a0L (a1O a2M) a6z (a0R d8X 25 (0+1)) a0s=true:=by kernel_rfl
def d8T:Ivs:=a0R (a0R b9l 1 (0+1)) 1 (1+1)
theorem d2e:a0L (c8a c3J) c6B (a0a d8T 1 (2)) []=true:=by kernel_rfl
def d8S:Ivs:=a0a (a0R b2z 21 (0+1)) 22 (0)
def d7A:Ivs:=a0R (a0R d8S 14 (0+1)) 14 (1+1)
def d8R:Ivs:=a0R (a0a d7A 29 (0)) 24 (-1+1)
theorem b4U:a0L (a1O a2M) a7u (a0a (a0a d8R 24 (0)) 25 (-1)) a0s=true:=by kernel_rfl
def d8Q:Ivs:=a0R (a0R d7A 29 (0+1)) 24 (-1+1)
theorem b6K:a0L (a1O a2M) a9l (a0R d8Q 24 (0+1)) a0s=true:=by kernel_rfl
def d8P:Ivs:=a0a (a0R a7l 6 (0+1)) 6 (24)
def d8O:Ivs:=a0R (a0R d8P 6 (1+1)) 6 (2+1)
def d8N:Ivs:=a0R (a0R d8O 6 (3+1)) 6 (4+1)
def d8M:Ivs:=a0R (a0R d8N 6 (5+1)) 6 (6+1)
def a5e:List Fact:=.bin .lss (.sint .i64 3) (.sint .i64 2) (.bool true)::[]
theorem b3X:a0L (a5b a5c) a7P (a0a d8M 6 (7)) a5e=true:=by kernel_rfl
theorem b7m:a0L (a5b a5c) b0S (a0a d8N 6 (5)) a5e=true:=by kernel_rfl
theorem d9J:a0L (b8P d2x) d4L c6z a0s=true:=by kernel_rfl
theorem d9e:a0L (c9S d3D) d4z (a0R c7U 0 (-1+1)) []=true:=by kernel_rfl
def b6F:List Fact:=.bin .lss (.sint .i64 12) (.sint .i64 11) (.bool false)::[]
theorem d9I:a0L (b8P d2x) d4K c6z b6F=true:=by kernel_rfl
theorem e1L:a0L (c8a c3J) d6b (a0a b9l 1 (0)) []=true:=by kernel_rfl
theorem c7H:a0L (a7Q a8w) c0N (a0a d8W 14 (0)) a0s=true:=by kernel_rfl
theorem d9f:a0L (c9S d3D) d5A (a0a c7U 0 (-1)) []=true:=by kernel_rfl
theorem d8u:a0L (b8O d4C) d3u c6s b6F=true:=by kernel_rfl
theorem d9G:a0L (b8P d4Q) d4I c6y b6F=true:=by kernel_rfl
theorem d9O:a0L (a7Q a8w) d4U a1t b6F=true:=by kernel_rfl
end
end Go.Proofs.Ytmmmknhdigapkaa.plq
namespace Go.Proofs.Ytmmmknhdigapkaa.plq
open Go.Ev Go.RowKit
set_option linter.unusedVariables false
noncomputable section
def d8L:Ivs:=a0R (a0R d8M 6 (7+1)) 6 (8+1)
def d8K:Ivs:=a0R (a0R d8L 6 (9+1)) 6 (10+1)
def d8J:Ivs:=a0R (a0R d8K 6 (11+1)) 6 (12+1)
theorem a6H:a0L (a5b a5c) a3N (a0R (a0R d8J 6 (13+1)) 6 (14+1)) a5e=true:=by kernel_rfl
def d8I:Ivs:=a0R (a0a d8R 24 (0)) 25 (-1+1)
theorem b1M:a0L (a1O a2M) a5j (a0R (a0a d8I 25 (0)) 26 (-1+1)) a0s=true:=by kernel_rfl
theorem d5C:a0L (c9S d1B) c9R (a0a c2M 6 (16)) a5e=true:=by kernel_rfl
theorem c7F:a0L (a7Q a8w) c0L (a0a e1g 22 (1)) a0s=true:=by kernel_rfl
theorem b4Y:a0L (a1O a2M) a7y (a0a (a0a d8Y 24 (0)) 25 (-1)) a0s=true:=by kernel_rfl
theorem b0Y:a0L (a1O a2M) a5Q (a0R e1h 26 (0+1)) a0s=true:=by kernel_rfl
theorem b1N:a0L (a1O a2M) a5k (a0a (a0a d8I 25 (0)) 26 (-1)) a0s=true:=by kernel_rfl
theorem b4S:a0L (a1O a2M) a7s (a0a (a0a d8Q 24 (0)) 25 (-1)) a0s=true:=by kernel_rfl
theorem a8q:a0L (a5b a5c) a4M (a0a d8K 6 (11)) a5e=true:=by kernel_rfl
theorem d9Q:a0L (a7Q c9E) d0e (a0R b8U 0 (-1+1)) []=true:=by kernel_rfl
theorem b0h:a0L (a5b a5c) a5a (a0a d8L 6 (9)) a5e=true:=by kernel_rfl
theorem b9k:a0L (a5b a5c) b2g (a0a (a0R d8O 6 (3+1)) 6 (4)) a5e=true:=by kernel_rfl
theorem d8q:a0L (a1O d2u) d3k (a0R c6p 0 (-1+1)) []=true:=by kernel_rfl
theorem d9D:a0L (b8P d4O) d0Z c6w a0s=true:=by kernel_rfl
theorem d8y:a0L (b8O d2v) d3x c6u b6F=true:=by kernel_rfl
theorem c3e:a0L (a7Q a8w) b6S (a0R (a0R d8W 14 (0+1)) 14 (5+1)) a0s=true:=by kernel_rfl
theorem d9H:a0L (b8P d4Q) d4J c6y a0s=true:=by kernel_rfl
theorem d8n:a0L (a1O d3q) d3i c6n a0s=true:=by kernel_rfl
theorem d9C:a0L (b8P d4O) d4G c6w b6F=true:=by kernel_rfl
theorem d8e:a0L (a1O d0Q) d3d c6l b6F=true:=by kernel_rfl
theorem d2a:a0L (a5b a5c) c5w (a0R (a0R a7l 6 (0+1)) 6 (24+1)) a5e=true:=by kernel_rfl
end
end Go.Proofs.Ytmmmknhdigapkaa.plq
namespace Go.Proofs.Ytmmmknhdigapkaa.plq
open Go.Ev Go.RowKit
set_option linter.unusedVariables false
noncomputable section
def e1f:Ivs:=a0R (a0a b2z 21 (0)) 22 (0+1)
theorem c6h:a0L (a1O a2M) c0B (a0R e1f 22 (1+1)) a0s=true:=by kernel_rfl
theorem d3m:a0L (a1O c8v) c8r (a0R c1u 21 (0+1)) a0s=true:=by kernel_rfl
theorem d5B:a0L (c9S d1B) c9Q (a0R c2M 6 (16+1)) a5e=true:=by kernel_rfl
def d8H:Ivs:=a0R (a0R d7B 29 (0+1)) 24 (-1+1)
theorem b6O:a0L (a1O a2M) a9p (a0R d8H 24 (0+1)) a0s=true:=by kernel_rfl
def d8G:Ivs:=a0R (a0a d8H 24 (0)) 25 (-1+1)
theorem b2v:a0L (a1O a2M) a6x (a0R d8G 25 (0+1)) a0s=true:=by kernel_rfl
theorem b8T:a0L (a7Q a8w) b1T (a0a (a0R d8V 14 (1+1)) 14 (2)) a0s=true:=by kernel_rfl
theorem b8N:a0L (a1O a2M) b1L (a0a (a0a d7B 29 (0)) 24 (-1)) a0s=true:=by kernel_rfl
theorem b6M:a0L (a1O a2M) a9n (a0R d8R 24 (0+1)) a0s=true:=by kernel_rfl
theorem a7k:a0L (a5b a5c) a4A (a0a (a0R d8K 6 (11+1)) 6 (12)) a5e=true:=by kernel_rfl
theorem b2j:a0L (a5b a5c) a6G (a0a (a0R d8M 6 (7+1)) 6 (8)) a5e=true:=by kernel_rfl
theorem c5z:a0L (a5b a5c) b7k (a0a (a0R d8P 6 (1+1)) 6 (2)) a5e=true:=by kernel_rfl
theorem d9K:a0L (b8P d2y) d4M (a0R c7A 0 (-1+1)) []=true:=by kernel_rfl
theorem d8p:a0L (a1O c6q) d3j c6o a0s=true:=by kernel_rfl
theorem d8j:a0L (a1O c8w) d0L c6m a0s=true:=by kernel_rfl
theorem e1D:a0L (d7l d3Q) d6I c5s b6F=true:=by kernel_rfl
theorem d9R:a0L (a7Q c9E) d0f (a0a b8U 0 (-1)) []=true:=by kernel_rfl
theorem d8r:a0L (a1O d2u) d3l (a0a c6p 0 (-1)) []=true:=by kernel_rfl
theorem d8i:a0L (a1O c8w) d3f c6m b6F=true:=by kernel_rfl
theorem e4G:a0L (d7l d7m) e2j d6K []=true:=by kernel_rfl
def e1e:List Fact:=.bin .lss (.sint .i64 3) (.sint .i64 2) (.bool false)::[]
theorem e1G:a0L (a5b a5c) d6U a7l e1e=true:=by kernel_rfl
end
end Go.Proofs.Ytmmmknhdigapkaa.plq
namespace Go.Proofs.Ytmmmknhdigapkaa.plq
open Go.Ev Go.RowKit
set_option linter.unusedVariables false
noncomputable section
def e1d:Ivs:=a0R (a0R b2z 21 (0+1)) 22 (0+1)
theorem c6d:a0L (a1O a2M) b9x (a0R e1d 22 (1+1)) a0s=true:=by kernel_rfl
theorem e3a:a0L (e3Z d7N) d5Q d5R []=true:=by kernel_rfl
theorem b1O:a0L (a1O a2M) a5l (a0R (a0a d8G 25 (0)) 26 (-1+1)) a0s=true:=by kernel_rfl
def e1c:Ivs:=a0R (a0R a1t 21 (0+1)) 22 (0+1)
theorem c7C:a0L (a7Q a8w) c0I (a0R e1c 22 (1+1)) a0s=true:=by kernel_rfl
theorem b4W:a0L (a1O a2M) a7w (a0a (a0a d8H 24 (0)) 25 (-1)) a0s=true:=by kernel_rfl
theorem b1P:a0L (a1O a2M) a5m (a0a (a0a d8G 25 (0)) 26 (-1)) a0s=true:=by kernel_rfl
theorem b6V:a0L (a7Q a8w) a9x (a0a d8U 14 (3)) a0s=true:=by kernel_rfl
theorem b8J:a0L (a1O a2M) b1H (a0a (a0a d7A 29 (0)) 24 (-1)) a0s=true:=by kernel_rfl
theorem a6I:a0L (a5b a5c) a3O (a0a (a0R d8J 6 (13+1)) 6 (14)) a5e=true:=by kernel_rfl
theorem b5u:a0L (a5b a5c) a8o (a0a (a0R d8N 6 (5+1)) 6 (6)) a5e=true:=by kernel_rfl
theorem e3N:a0L (e3M d7E) e2G d4Z []=true:=by kernel_rfl
theorem e3P:a0L (e3O d7F) e2H d4c []=true:=by kernel_rfl
theorem e3S:a0L (e3Q d7G) e2I d4f []=true:=by kernel_rfl
theorem d8z:a0L (b8O d2v) d3y c6u a0s=true:=by kernel_rfl
theorem d8t:a0L (b8O d4B) d0W c6r a0s=true:=by kernel_rfl
theorem c1w:a0L (a7Q a8w) b3f (a0a d8V 14 (1)) a0s=true:=by kernel_rfl
theorem d9M:a0L (a7Q d2z) d0d c7I b6F=true:=by kernel_rfl
theorem e1J:a0L (a5b d3R) d6W (a0a c8Z 0 (-1)) []=true:=by kernel_rfl
theorem d8s:a0L (b8O d4B) d3t c6r b6F=true:=by kernel_rfl
theorem d8w:a0L (b8O d4D) d3v c6t b6F=true:=by kernel_rfl
theorem d9c:a0L (c9S d1B) d4y c2M e1e=true:=by kernel_rfl
end
end Go.Proofs.Ytmmmknhdigapkaa.plq
namespace Go.Proofs.Ytmmmknhdigapkaa.plq
open Go.Ev Go.RowKit
set_option linter.unusedVariables false
noncomputable section
theorem b4R:a0L (a1O a2M) a7r (a0R (a0a d8Q 24 (0)) 25 (-1+1)) a0s=true:=by kernel_rfl
theorem d3n:a0L (a1O c8v) c8s (a0a c1u 21 (0)) a0s=true:=by kernel_rfl
theorem c8c:a0L (c8a c3J) c1W (a0a (a0R d8T 1 (2+1)) 1 (3)) []=true:=by kernel_rfl
theorem b6Q:a0L (a1O a2M) a9r (a0R d8Y 24 (0+1)) a0s=true:=by kernel_rfl
theorem d0h:a0L (a7Q a8w) c3b (a0a (a0R a1t 21 (0+1)) 22 (0)) a0s=true:=by kernel_rfl
theorem b1R:a0L (a1O a2M) a5o (a0a (a0a d8X 25 (0)) 26 (-1)) a0s=true:=by kernel_rfl
theorem b8L:a0L (a1O a2M) b1J (a0a (a0R d7B 29 (0+1)) 24 (-1)) a0s=true:=by kernel_rfl
theorem b8H:a0L (a1O a2M) b1F (a0a (a0R d7A 29 (0+1)) 24 (-1)) a0s=true:=by kernel_rfl
theorem c6g:a0L (a1O a2M) c0A (a0a d8S 14 (0)) a0s=true:=by kernel_rfl
theorem e1I:a0L (a5b d3R) d6V (a0R c8Z 0 (-1+1)) []=true:=by kernel_rfl
theorem c8Y:a0L (a5b a5c) c1U (a0a d8P 6 (1)) a5e=true:=by kernel_rfl
theorem d8o:a0L (a1O c6q) c6c c6o b6F=true:=by kernel_rfl
theorem c2y:a0L (a5b a5c) b4L (a0a d8O 6 (3)) a5e=true:=by kernel_rfl
theorem d9A:a0L (b8O d2w) d3z (a0R c6v 0 (-1+1)) []=true:=by kernel_rfl
theorem d9F:a0L (b8P d4P) d0a c6x a0s=true:=by kernel_rfl
theorem d8f:a0L (a1O d0Q) d0K c6l a0s=true:=by kernel_rfl
theorem c3X:a0L (a1O a2M) b6J (a0a (a0R d8Z 14 (0+1)) 14 (1)) a0s=true:=by kernel_rfl
theorem d8x:a0L (b8O d4D) d3w c6t a0s=true:=by kernel_rfl
theorem d9B:a0L (b8O d2w) d4A (a0a c6v 0 (-1)) []=true:=by kernel_rfl
theorem d8k:a0L (a1O a2M) d3g b2z b6F=true:=by kernel_rfl
theorem d8m:a0L (a1O d3q) d3h c6n b6F=true:=by kernel_rfl
end
end Go.Proofs.Ytmmmknhdigapkaa.plq
namespace Go.Proofs.Ytmmmknhdigapkaa.plq
open Go.Ev Go.RowKit
set_option linter.unusedVariables false
noncomputable section
theorem c6i:a0L (a1O a2M) c0C (a0a e1f 22 (1)) a0s=true:=by kernel_rfl
theorem c6e:a0L (a1O a2M) b9y (a0a e1d 22 (1)) a0s=true:=by kernel_rfl
theorem c8b:a0L (c8a c3J) c1V (a0R (a0R d8T 1 (2+1)) 1 (3+1)) []=true:=by kernel_rfl
theorem c7D:a0L (a7Q a8w) c0J (a0a e1c 22 (1)) a0s=true:=by kernel_rfl
theorem b4Z:a0L (a7Q a8w) a7z (a0R (a0R d8U 14 (3+1)) 14 (4+1)) a0s=true:=by kernel_rfl
theorem d6d:a0L (c8a c3J) c9t (a0a (a0R b9l 1 (0+1)) 1 (1)) []=true:=by kernel_rfl
theorem b2t:a0L (a1O a2M) a6v (a0R d8I 25 (0+1)) a0s=true:=by kernel_rfl
theorem a6u:a0L (a5b a5c) a3Z (a0a d8J 6 (13)) a5e=true:=by kernel_rfl
theorem c6k:a0L (a1O a2M) c0E (a0a d8Z 14 (0)) a0s=true:=by kernel_rfl
theorem a9h:a0L (a5b a5c) a4o (a0a (a0R d8L 6 (9+1)) 6 (10)) a5e=true:=by kernel_rfl
theorem d8v:a0L (b8O d4C) d0X c6s a0s=true:=by kernel_rfl
theorem e1E:a0L (d7l d3Q) d6J c5s a0s=true:=by kernel_rfl
theorem c3V:a0L (a1O a2M) b6H (a0a (a0R d8S 14 (0+1)) 14 (1)) a0s=true:=by kernel_rfl
theorem d9L:a0L (b8P d2y) d4N (a0a c7A 0 (-1)) []=true:=by kernel_rfl
theorem d9E:a0L (b8P d4P) d4H c6x b6F=true:=by kernel_rfl
theorem d8g:a0L (a1O c8v) d3e c1u b6F=true:=by kernel_rfl
theorem d6Y:a0L (a5b a5c) c9q (a0a a7l 6 (0)) a5e=true:=by kernel_rfl
end
end Go.Proofs.Ytmmmknhdigapkaa.plq
namespace Go.Proofs.Ytmmmknhdigapkaa.plq
open Go.Ev Go.RowKit
set_option linter.unusedVariables false
noncomputable section
theorem e4F:Go.Ev.a0L (d7l d3Q) e2i c5s []=true:=Go.Ev.a0y e1E e1D
theorem d6L: @Go.Ev.Auto (Go.Ev.a6s Try.prog d7n) Try.prog (Go.Ev.a9K Try.prog d7n 20000) Try.f40 c9m [0] 1000 clC (fun _=>none):=Go.Ev.a3X b8w mixed (by kernel_rfl) ⟨e4G,e4F,trivial⟩ ⟨(fun _ _=>rfl),(a0p []),trivial⟩
def e1b:Ivs:=Go.Ev.a0R (Go.Ev.a0R b9l 1 (0+1)) 1 (1+1)
theorem d2d:Go.Ev.a0L (c8a c3J) c6A (Go.Ev.a0R e1b 1 (2+1)) []=true:=Go.Ev.a0G c8c c8b
theorem d6c:Go.Ev.a0L (c8a c3J) c9s e1b []=true:=Go.Ev.a0G d2e d2d
theorem e1K:Go.Ev.a0L (c8a c3J) d6a (Go.Ev.a0R b9l 1 (0+1)) []=true:=Go.Ev.a0G d6d d6c
theorem e4J:Go.Ev.a0L (c8a c3J) d3S b9l []=true:=Go.Ev.a0G e1L e1K
theorem d6e: @Go.Ev.Auto (Go.Ev.a6s Try.prog d7q) Try.prog (Go.Ev.a9K Try.prog d7q 20000) Try.f41 c9u [] 1000 cbC (fun _=>none):=Go.Ev.a3X b8w mixed (by kernel_rfl) ⟨e4J,trivial⟩ ⟨(fun _ _=>rfl),trivial⟩
theorem d4g: @Go.Ev.Auto (Go.Ev.a6s Try.prog d4h) Try.prog (Go.Ev.a9K Try.prog d4h 20000) Try.f23 c9I [0] 1000 vaC (fun _=>none):=Go.Ev.a3X b8w mixed (by kernel_rfl) ⟨e3S,trivial⟩ ⟨(fun _ _=>rfl),trivial⟩
theorem d4d: @Go.Ev.Auto (Go.Ev.a6s Try.prog d4e) Try.prog (Go.Ev.a9K Try.prog d4e 20000) Try.f23 c9H [0] 1000 vbC (fun _=>none):=Go.Ev.a3X b8w mixed (by kernel_rfl) ⟨e3P,trivial⟩ ⟨(fun _ _=>rfl),trivial⟩
theorem d4a: @Go.Ev.Auto (Go.Ev.a6s Try.prog d4b) Try.prog (Go.Ev.a9K Try.prog d4b 20000) Try.f23 c9G [0] 1000 vcC (fun _=>none):=Go.Ev.a3X b8w mixed (by kernel_rfl) ⟨e3N,trivial⟩ ⟨(fun _ _=>rfl),trivial⟩
theorem e3L:Go.Ev.a0L (a7Q c9E) d7D b8U []=true:=Go.Ev.a0G d9R d9Q
def d6z:Ivs:=Go.Ev.a0a a1t 21 (0)
def d8F:Ivs:=Go.Ev.a0R (Go.Ev.a0a d6z 22 (0)) 14 (0+1)
def d8E:Ivs:=Go.Ev.a0R (Go.Ev.a0a d8F 14 (5)) 14 (1+1)
theorem b6U:Go.Ev.a0L (a7Q a8w) a9w (Go.Ev.a0R (Go.Ev.a0R d8E 14 (2+1)) 14 (3+1)) a0s=true:=Go.Ev.a0G b4a b4Z
theorem b8S:Go.Ev.a0L (a7Q a8w) b1S (Go.Ev.a0R d8E 14 (2+1)) a0s=true:=Go.Ev.a0G b6V b6U
theorem c1v:Go.Ev.a0L (a7Q a8w) b3e d8E a0s=true:=Go.Ev.a0G b8T b8S
theorem c3f:Go.Ev.a0L (a7Q a8w) b6T (Go.Ev.a0a d8F 14 (5)) a0s=true:=Go.Ev.a0G c1w c1v
theorem c7G:Go.Ev.a0L (a7Q a8w) c0M d8F a0s=true:=Go.Ev.a0G c3f c3e
theorem d0j:Go.Ev.a0L (a7Q a8w) c3d (Go.Ev.a0a d6z 22 (0)) a0s=true:=Go.Ev.a0G c7H c7G
theorem d0i:Go.Ev.a0L (a7Q a8w) c3c (Go.Ev.a0R d6z 22 (0+1)) a0s=true:=Go.Ev.a0G c7F c7E
theorem d4W:Go.Ev.a0L (a7Q a8w) c9D d6z a0s=true:=Go.Ev.a0G d0j d0i
def e1a:Ivs:=Go.Ev.a0R a1t 21 (0+1)
theorem d0g:Go.Ev.a0L (a7Q a8w) c3a (Go.Ev.a0R e1a 22 (0+1)) a0s=true:=Go.Ev.a0G c7D c7C
theorem d4V:Go.Ev.a0L (a7Q a8w) c9C e1a a0s=true:=Go.Ev.a0G d0h d0g
theorem d9P:Go.Ev.a0L (a7Q a8w) b8R a1t a0s=true:=Go.Ev.a0G d4W d4V
theorem e3K:Go.Ev.a0L (a7Q a8w) e2F a1t []=true:=Go.Ev.a0y d9P d9O
theorem e3J:Go.Ev.a0L (a7Q d2z) e2E c7I []=true:=Go.Ev.a0y d9N d9M
theorem d4X: @Go.Ev.Auto (Go.Ev.a6s Try.prog d4Y) Try.prog (Go.Ev.a9K Try.prog d4Y 20000) Try.f23 c9F [0] 1000 vdC (fun _=>none):=Go.Ev.a3X b8w mixed (by kernel_rfl) ⟨e3L,e3K,e3J,trivial⟩ ⟨(fun _ _=>rfl),(a0p (a1c false)),(a0p (a1c false)),trivial⟩
theorem e4I:Go.Ev.a0L (a5b d3R) e2o c8Z []=true:=Go.Ev.a0G e1J e1I
def d8D:Ivs:=Go.Ev.a0a (Go.Ev.a0R a7l 6 (0+1)) 6 (24)
def d8C:Ivs:=Go.Ev.a0R (Go.Ev.a0R d8D 6 (1+1)) 6 (2+1)
def d8B:Ivs:=Go.Ev.a0R (Go.Ev.a0R d8C 6 (3+1)) 6 (4+1)
def d8A:Ivs:=Go.Ev.a0R (Go.Ev.a0R d8B 6 (5+1)) 6 (6+1)
def d7z:Ivs:=Go.Ev.a0R (Go.Ev.a0R d8A 6 (7+1)) 6 (8+1)
def d7y:Ivs:=Go.Ev.a0R (Go.Ev.a0R d7z 6 (9+1)) 6 (10+1)
def e1Z:Ivs:=Go.Ev.a0R (Go.Ev.a0R d7y 6 (11+1)) 6 (12+1)
theorem a6t:Go.Ev.a0L (a5b a5c) a3Y (Go.Ev.a0R e1Z 6 (13+1)) a5e=true:=Go.Ev.a0G a6I a6H
theorem a7j:Go.Ev.a0L (a5b a5c) a3z e1Z a5e=true:=Go.Ev.a0G a6u a6t
theorem a8p:Go.Ev.a0L (a5b a5c) a4L (Go.Ev.a0R d7y 6 (11+1)) a5e=true:=Go.Ev.a0G a7k a7j
theorem a9g:Go.Ev.a0L (a5b a5c) a4n d7y a5e=true:=Go.Ev.a0G a8q a8p
theorem b0g:Go.Ev.a0L (a5b a5c) a5Z (Go.Ev.a0R d7z 6 (9+1)) a5e=true:=Go.Ev.a0G a9h a9g
theorem b2i:Go.Ev.a0L (a5b a5c) a6F d7z a5e=true:=Go.Ev.a0G b0h b0g
theorem b3W:Go.Ev.a0L (a5b a5c) a7O (Go.Ev.a0R d8A 6 (7+1)) a5e=true:=Go.Ev.a0G b2j b2i
theorem b5t:Go.Ev.a0L (a5b a5c) a8n d8A a5e=true:=Go.Ev.a0G b3X b3W
theorem b7l:Go.Ev.a0L (a5b a5c) b0R (Go.Ev.a0R d8B 6 (5+1)) a5e=true:=Go.Ev.a0G b5u b5t
theorem b9j:Go.Ev.a0L (a5b a5c) b2f d8B a5e=true:=Go.Ev.a0G b7m b7l
theorem c2x:Go.Ev.a0L (a5b a5c) b4K (Go.Ev.a0R d8C 6 (3+1)) a5e=true:=Go.Ev.a0G b9k b9j
theorem c5y:Go.Ev.a0L (a5b a5c) b7j d8C a5e=true:=Go.Ev.a0G c2y c2x
theorem c8X:Go.Ev.a0L (a5b a5c) c1T (Go.Ev.a0R d8D 6 (1+1)) a5e=true:=Go.Ev.a0G c5z c5y
theorem d2b:Go.Ev.a0L (a5b a5c) c5x d8D a5e=true:=Go.Ev.a0G c8Y c8X
theorem d6X:Go.Ev.a0L (a5b a5c) c9p (Go.Ev.a0R a7l 6 (0+1)) a5e=true:=Go.Ev.a0G d2b d2a
theorem e1H:Go.Ev.a0L (a5b a5c) b2h a7l a5e=true:=Go.Ev.a0G d6Y d6X
theorem e4H:Go.Ev.a0L (a5b a5c) e2n a7l []=true:=Go.Ev.a0y e1H e1G
theorem d6Z: @Go.Ev.Auto (Go.Ev.a6s Try.prog d7p) Try.prog (Go.Ev.a9K Try.prog d7p 20000) Try.f83 c9r [0] 1000 ccC (fun _=>none):=Go.Ev.a3X b8w mixed (by kernel_rfl) ⟨e4I,e4H,trivial⟩ ⟨(fun _ _=>rfl),b7w,trivial⟩
theorem d5S: @Go.Ev.Auto (Go.Ev.a6s Try.prog d7O) Try.prog (Go.Ev.a9K Try.prog d7O 20000) Try.f44 c9U [] 1000 rbC (fun _=>none):=Go.Ev.a3X b8w mixed (by kernel_rfl) ⟨e3a,trivial⟩ ⟨(fun _ _=>rfl),trivial⟩
theorem e3I:Go.Ev.a0L (b8P d2y) e2D c7A []=true:=Go.Ev.a0G d9L d9K
theorem e3H:Go.Ev.a0L (b8P d2x) e2C c6z []=true:=Go.Ev.a0y d9J d9I
theorem e3G:Go.Ev.a0L (b8P d4Q) e2B c6y []=true:=Go.Ev.a0y d9H d9G
theorem e3F:Go.Ev.a0L (b8P d4P) e2A c6x []=true:=Go.Ev.a0y d9F d9E
theorem e3E:Go.Ev.a0L (b8P d4O) e1z c6w []=true:=Go.Ev.a0y d9D d9C
theorem d4R: @Go.Ev.Auto (Go.Ev.a6s Try.prog d7C) Try.prog (Go.Ev.a9K Try.prog d7C 20000) Try.f25 c8z [0,1] 1000 waC (fun _=>none):=Go.Ev.a3X b8w mixed (by kernel_rfl) ⟨e3I,e3H,e3G,e3F,e3E,trivial⟩ ⟨(fun _ _=>rfl),(a0p (a1c true)),(a0p (a1c true)),(a0p (a1c true)),(a0p (a1c true)),trivial⟩
theorem e3D:Go.Ev.a0L (b8O d2w) e1y c6v []=true:=Go.Ev.a0G d9B d9A
theorem e3C:Go.Ev.a0L (b8O d2v) e1x c6u []=true:=Go.Ev.a0y d8z d8y
theorem e3B:Go.Ev.a0L (b8O d4D) e1w c6t []=true:=Go.Ev.a0y d8x d8w
theorem e3A:Go.Ev.a0L (b8O d4C) e1v c6s []=true:=Go.Ev.a0y d8v d8u
theorem e2z:Go.Ev.a0L (b8O d4B) e1u c6r []=true:=Go.Ev.a0y d8t d8s
theorem d4E: @Go.Ev.Auto (Go.Ev.a6s Try.prog d4F) Try.prog (Go.Ev.a9K Try.prog d4F 20000) Try.f25 c8y [0,1] 1000 wbC (fun _=>none):=Go.Ev.a3X b8w mixed (by kernel_rfl) ⟨e3D,e3C,e3B,e3A,e2z,trivial⟩ ⟨(fun _ _=>rfl),(a0p (a1c false)),(a0p (a1c false)),(a0p (a1c false)),(a0p (a1c false)),trivial⟩
theorem e2y:Go.Ev.a0L (a1O d2u) e1t c6p []=true:=Go.Ev.a0G d8r d8q
theorem e2x:Go.Ev.a0L (a1O c6q) e1s c6o []=true:=Go.Ev.a0y d8p d8o
theorem e2w:Go.Ev.a0L (a1O d3q) e1r c6n []=true:=Go.Ev.a0y d8n d8m
def d6y:Ivs:=Go.Ev.a0a b2z 21 (0)
def e1Y:Ivs:=Go.Ev.a0R (Go.Ev.a0a d6y 22 (0)) 14 (0+1)
def d3Z:Ivs:=Go.Ev.a0R e1Y 14 (1+1)
def d7x:Ivs:=Go.Ev.a0R (Go.Ev.a0a d3Z 29 (0)) 24 (-1+1)
def d7w:Ivs:=Go.Ev.a0R (Go.Ev.a0a d7x 24 (0)) 25 (-1+1)
theorem b1Q:Go.Ev.a0L (a1O a2M) a5n (Go.Ev.a0R (Go.Ev.a0a d7w 25 (0)) 26 (-1+1)) a0s=true:=Go.Ev.a0G b0Z b0Y
theorem b2y:Go.Ev.a0L (a1O a2M) a7A (Go.Ev.a0a d7w 25 (0)) a0s=true:=Go.Ev.a0G b1R b1Q
theorem b4X:Go.Ev.a0L (a1O a2M) a7x d7w a0s=true:=Go.Ev.a0G b2y b2x
theorem b6R:Go.Ev.a0L (a1O a2M) a9s (Go.Ev.a0a d7x 24 (0)) a0s=true:=Go.Ev.a0G b4Y b4X
theorem b8M:Go.Ev.a0L (a1O a2M) b1K d7x a0s=true:=Go.Ev.a0G b6R b6Q
theorem c1t:Go.Ev.a0L (a1O a2M) b3d (Go.Ev.a0a d3Z 29 (0)) a0s=true:=Go.Ev.a0G b8N b8M
def d7v:Ivs:=Go.Ev.a0R (Go.Ev.a0R d3Z 29 (0+1)) 24 (-1+1)
def e1X:Ivs:=Go.Ev.a0R (Go.Ev.a0a d7v 24 (0)) 25 (-1+1)
theorem b2w:Go.Ev.a0L (a1O a2M) a6y (Go.Ev.a0a e1X 25 (0)) a0s=true:=Go.Ev.a0G b1P b1O
theorem b4V:Go.Ev.a0L (a1O a2M) a7v e1X a0s=true:=Go.Ev.a0G b2w b2v
theorem b6P:Go.Ev.a0L (a1O a2M) a9q (Go.Ev.a0a d7v 24 (0)) a0s=true:=Go.Ev.a0G b4W b4V
theorem b8K:Go.Ev.a0L (a1O a2M) b1I d7v a0s=true:=Go.Ev.a0G b6P b6O
theorem c1s:Go.Ev.a0L (a1O a2M) b3c (Go.Ev.a0R d3Z 29 (0+1)) a0s=true:=Go.Ev.a0G b8L b8K
theorem c3W:Go.Ev.a0L (a1O a2M) b6I d3Z a0s=true:=Go.Ev.a0G c1t c1s
theorem c6j:Go.Ev.a0L (a1O a2M) c0D e1Y a0s=true:=Go.Ev.a0G c3X c3W
theorem d0P:Go.Ev.a0L (a1O a2M) c3S (Go.Ev.a0a d6y 22 (0)) a0s=true:=Go.Ev.a0G c6k c6j
theorem d0O:Go.Ev.a0L (a1O a2M) c3R (Go.Ev.a0R d6y 22 (0+1)) a0s=true:=Go.Ev.a0G c6i c6h
theorem d3p:Go.Ev.a0L (a1O a2M) c8u d6y a0s=true:=Go.Ev.a0G d0P d0O
def d6x:Ivs:=Go.Ev.a0R b2z 21 (0+1)
def e1W:Ivs:=Go.Ev.a0R (Go.Ev.a0a d6x 22 (0)) 14 (0+1)
def d3Y:Ivs:=Go.Ev.a0R e1W 14 (1+1)
def d7u:Ivs:=Go.Ev.a0R (Go.Ev.a0a d3Y 29 (0)) 24 (-1+1)
def e1V:Ivs:=Go.Ev.a0R (Go.Ev.a0a d7u 24 (0)) 25 (-1+1)
theorem b2u:Go.Ev.a0L (a1O a2M) a6w (Go.Ev.a0a e1V 25 (0)) a0s=true:=Go.Ev.a0G b1N b1M
theorem b4T:Go.Ev.a0L (a1O a2M) a7t e1V a0s=true:=Go.Ev.a0G b2u b2t
theorem b6N:Go.Ev.a0L (a1O a2M) a9o (Go.Ev.a0a d7u 24 (0)) a0s=true:=Go.Ev.a0G b4U b4T
theorem b8I:Go.Ev.a0L (a1O a2M) b1G d7u a0s=true:=Go.Ev.a0G b6N b6M
theorem c1r:Go.Ev.a0L (a1O a2M) b3b (Go.Ev.a0a d3Y 29 (0)) a0s=true:=Go.Ev.a0G b8J b8I
def e1U:Ivs:=Go.Ev.a0R (Go.Ev.a0R d3Y 29 (0+1)) 24 (-1+1)
theorem b6L:Go.Ev.a0L (a1O a2M) a9m (Go.Ev.a0a e1U 24 (0)) a0s=true:=Go.Ev.a0G b4S b4R
theorem b8G:Go.Ev.a0L (a1O a2M) b1E e1U a0s=true:=Go.Ev.a0G b6L b6K
theorem c1q:Go.Ev.a0L (a1O a2M) b3a (Go.Ev.a0R d3Y 29 (0+1)) a0s=true:=Go.Ev.a0G b8H b8G
theorem c3U:Go.Ev.a0L (a1O a2M) b6G d3Y a0s=true:=Go.Ev.a0G c1r c1q
theorem c6f:Go.Ev.a0L (a1O a2M) b9z e1W a0s=true:=Go.Ev.a0G c3V c3U
theorem d0N:Go.Ev.a0L (a1O a2M) c3Q (Go.Ev.a0a d6x 22 (0)) a0s=true:=Go.Ev.a0G c6g c6f
theorem d0M:Go.Ev.a0L (a1O a2M) c3P (Go.Ev.a0R d6x 22 (0+1)) a0s=true:=Go.Ev.a0G c6e c6d
theorem d3o:Go.Ev.a0L (a1O a2M) c8t d6x a0s=true:=Go.Ev.a0G d0N d0M
theorem d8l:Go.Ev.a0L (a1O a2M) c3T b2z a0s=true:=Go.Ev.a0G d3p d3o
theorem e2v:Go.Ev.a0L (a1O a2M) e1q b2z []=true:=Go.Ev.a0y d8l d8k
theorem e2u:Go.Ev.a0L (a1O c8w) e1p c6m []=true:=Go.Ev.a0y d8j d8i
theorem d8h:Go.Ev.a0L (a1O c8v) c3O c1u a0s=true:=Go.Ev.a0G d3n d3m
theorem e2t:Go.Ev.a0L (a1O c8v) e1o c1u []=true:=Go.Ev.a0y d8h d8g
theorem e2s:Go.Ev.a0L (a1O d0Q) e1n c6l []=true:=Go.Ev.a0y d8f d8e
theorem d3r: @Go.Ev.Auto (Go.Ev.a6s Try.prog d3s) Try.prog (Go.Ev.a9K Try.prog d3s 20000) Try.f25 c8x [0,1] 1000 wcC (fun _=>none):=Go.Ev.a3X b8w mixed (by kernel_rfl) ⟨e2y,e2x,e2w,e2v,e2u,e2t,e2s,trivial⟩ ⟨(fun _ _=>rfl),(a0p (a1c false)),(a0p (a1c false)),(a0p (a1c false)),(a0p (a1c false)),(a0p (a1c false)),(a0p (a1c false)),trivial⟩
theorem e3W:Go.Ev.a0L (c9S d3D) e2M c7U []=true:=Go.Ev.a0G d9f d9e
theorem d9d:Go.Ev.a0L (c9S d1B) c4H c2M a5e=true:=Go.Ev.a0G d5C d5B
theorem e3V:Go.Ev.a0L (c9S d1B) e2L c2M []=true:=Go.Ev.a0y d9d d9c
theorem d5D: @Go.Ev.Auto (Go.Ev.a6s Try.prog d7L) Try.prog (Go.Ev.a9K Try.prog d7L 20000) Try.f64 c9T [0] 1000 rzC (fun _=>none):=Go.Ev.a3X b8w mixed (by kernel_rfl) ⟨e3W,e3V,trivial⟩ ⟨(fun _ _=>rfl),b7w,trivial⟩
end
end Go.Proofs.Ytmmmknhdigapkaa.plq
