/-
  Which cards and codes may be: cuts, trees of cases (printed by a program of ours).
-/
import Derived.Test.YtmmmknhdigapkaaProg
import Derived.Test.YtmmmknhdigapkaaEv9
import Derived.ProofKit
namespace Go.Proofs.Ytmmmknhdigapkaa.plq
open Go.Ev Go.RowKit
set_option linter.unusedVariables false
noncomputable section
theorem c9f:c9e Try.prog=true:=by kernel_rfl
theorem mixed:Try.prog.follows .mixedOrders=true:=by kernel_rfl
def si(i:Nat):VV:=.sint .i64 i
def a0V:Int×Int:=(-9223372036854775808,9223372036854775807)
def c2X(fs:List Fact)(a b:Nat):Bool:=fs.any fun f=>match f with
 |.bin .lss (.sint _ x) (.sint _ y) (.bool true)=>Nat.beq x a&&Nat.beq y b|_=>false
def d3t(iv:Ivs)(i:Nat)(c:Int):Bool:=decide ((a2B iv i).1≥c)
def a9e:VV:=.agg [.sym 0,si 1,si 2,si 3,si 4,si 5,si 6,si 7,si 8,si 9,.sym 1]
def d4z:List Fact:=[.len true (.sym 0) (si 10),.len false (.sym 1) (si 11)]
def e1o:List Fact:=[.at 13 (.sym 1) (si 12) ⟨.sym 30,0⟩,.bin .add (si 12) (.int .i64 1) (si 13),.len false (.sym 32) (si 22),.len false (.sym 33) (si 23)]
def tgF(iv:Ivs):List Fact:=(match d3t iv 22 1 with|true=>[.at 1 (.sym 32) (.int .i64 0) ⟨.sym 31,0⟩]|false=>[])++(match d3t iv 22 2 with|true=>[.at 1 (.sym 32) (.int .i64 1) ⟨.sym 31,1⟩]|false=>[])
def e0Y(iv:Ivs):VV:=match d3t iv 21 1,decide ((a2B iv 21).2≤0)with|true,_=>.bool true|_,true=>.bool false|_,_=>.one
def d1h(iv:Ivs):List VV:=[sv iv .i64 14,si 15,si 16,si 17,si 18,si 19,si 20,e0Y iv,.sym 32,.sym 33,si 24,si 25,si 26]
def d1x(x:List Fact)(iv:Ivs)(fs:List Fact):Env:=⟨fun _=>none,a2B iv,fs++(x++d4z),fun _=>none⟩
def c1T(x:List Fact)(iv:Ivs)(fs:List Fact):Env:=match c2X fs 12 11 with
 |true=>⟨fun _=>none,a2B iv,fs++(x++(d4z++(e1o++tgF iv))),fun i=>match Nat.beq i 30 with|true=>some (d1h iv)|false=>match Nat.beq i 31,d3t iv 22 1 with|true,true=>some (match d3t iv 22 2 with|true=>[si 27,si 28]|false=>[si 27])|_,_=>none⟩|false=>d1x x iv fs
def b7X(b:Bool):List Fact:=[.bin .eql (.sym 0) (.string .empty) (.bool b),.bin .neq (.sym 0) (.string .empty) (.bool (!b))]
def ivE:Ivs:=[a0V,a0V,a0V,a0V,a0V,a0V,a0V,a0V,a0V,a0V,(0,9223372036854775807),(0,9223372036854775807)]
def codeF:List Fact:=[.len false (.sym 0) (si 2)]
def d7l:List Fact:=[.at 3 (.sym 0) (si 3) ⟨.sym 5,0⟩,.bin .add (si 3) (.int .i64 1) (si 4)]
def e2O(iv:Ivs)(fs:List Fact):Env:=⟨fun _=>none,a2B iv,fs++codeF,fun _=>none⟩
def c8M(iv:Ivs)(fs:List Fact):Env:=match c2X fs 3 2 with
 |true=>⟨fun _=>none,a2B iv,fs++(codeF++d7l),fun i=>match Nat.beq i 5 with|true=>some [sv iv .i64 6,si 7,si 8]|false=>none⟩|false=>e2O iv fs
theorem b3G(x:List Fact)(iv:Ivs)(fs:List Fact):(c1T x iv fs).blk=fun _=>none:=by unfold c1T;split<;>rfl
theorem c8L(iv:Ivs)(fs:List Fact):(c8M iv fs).blk=fun _=>none:=by unfold c8M;split<;>rfl
def d7o:Ivs:=[a0V,a0V,a0V,a0V,a0V,a0V,a0V,a0V,a0V,a0V,(0,9223372036854775807),(0,9223372036854775807)]
def z0:TrX Leaf:=.leaf (.goto 1 [(.int .i64 (0))])
def e3I:TrX Leaf:=z0
def z1:VV:=.agg [(.sym 0),(.sint .i64 1),(.sint .i64 2),(.sint .i64 3),(.sint .i64 4),(.sint .i64 5),(.sint .i64 6),(.sint .i64 7),(.sint .i64 8),(.sint .i64 9),(.sym 1)]
def d9i:CutP:=⟨none,(.nd .lf (some z1) .lf),.lf,0,10,[],d7o,(d1x []),e3I⟩
def c7r:Ivs:=[a0V,a0V,a0V,a0V,a0V,a0V,a0V,a0V,a0V,a0V,(0,9223372036854775807),(0,9223372036854775807),(0,9223372036854775807),a0V,a0V,a0V,a0V,a0V,a0V,a0V,a0V,(0,1),(0,9223372036854775807),(0,9223372036854775807),a0V,a0V,a0V,a0V,a0V,(0,1000)]
def z2:TrX Leaf:=.leaf (.goto 1 [(.sint .i64 13)])
def z3:TrX Leaf:=.leaf (.ret (.bool true))
def d7n:TrX Leaf:=(.cut 22 (2) (.cut 23 (32) z2 z3) z3)
def z4:TrX Leaf:=.leaf (.ret (.bool false))
def d7m:TrX Leaf:=(.cut 10 (16) (.cut 11 (4) z4 z3) z3)
def e3H:TrX Leaf:=.rel .i64 12 11 d7n d7m
def z5:TT VV:=.nd .lf (some .any) .lf
def z6:TT VV:=.nd z5 (some .any) .lf
def z7:TT VV:=.nd z5 (some .any) z5
def z8:TT VV:=.nd z7 (some .any) z7
def z9:TT VO:=.nd .lf (some (.cells [(.sym 0),(.sint .i64 1),(.sint .i64 2),(.sint .i64 3),(.sint .i64 4),(.sint .i64 5),(.sint .i64 6),(.sint .i64 7),(.sint .i64 8),(.sint .i64 9),(.sym 1)] none 0 none)) .lf
def d5Y:CutP:=⟨some 0,(.nd (.nd (.nd (.nd z6 (some (.sint .i64 11)) z5) (some .any) z7) (some (.ptr (some ⟨(.loc 0),0⟩))) z8) (some .any) (.nd (.nd (.nd z6 (some (.sint .i64 12)) z5) (some .any) z7) (some (.bool false)) (.nd z7 (some (.sym 1)) z7))),z9,1,12,[(.sint .i64 12)],c7r,(c1T []),e3H⟩
def d9j:List KE:=[]
def clC:List CutP:=[d9i,d5Y]
def d1c:Code:=match Try.f40.body with|some c=>c|none=>.skip
def d9h(c:CutP):Ivs→List Fact→Leaf→Bool:=b3c Try.prog (b6m Try.prog d9j 20000) Try.f40.ntmps [0] 1000 Try.f40.results.toList d1c clC c
def c1J:Ivs:=[a0V,a0V,a0V,a0V,a0V,a0V,a0V,a0V,a0V,a0V,(0,9223372036854775807),(0,9223372036854775807)]
def d8D:TrX Leaf:=z4
def d1m:TrX Leaf:=(.cut 2 (-1) z4 (.cut 2 (20) (.cut 3 (-1) z4 (.cut 3 (20) (.cut 4 (-1) z4 (.cut 4 (20) (.cut 5 (-1) z4 (.cut 5 (20) (.cut 6 (-1) z4 (.cut 6 (3) (.cut 7 (-1) z4 (.cut 7 (0) (.cut 8 (-1) z4 (.cut 8 (0) (.cut 9 (-1) z4 (.cut 9 (0) (.cut 2 (0) (.cut 3 (0) (.cut 4 (0) (.cut 5 (0) z3 z4) z4) z4) z4) z4)) z4)) z4)) z4)) z4)) z4)) z4)) z4))
def c8A:TrX Leaf:=(.cut 2 (-1) z4 (.cut 2 (20) (.cut 3 (-1) z4 (.cut 3 (20) (.cut 4 (-1) z4 (.cut 4 (20) (.cut 5 (-1) z4 (.cut 5 (20) (.cut 6 (-1) z4 (.cut 6 (0) (.cut 7 (-1) z4 (.cut 7 (15) (.cut 8 (-1) z4 (.cut 8 (15) (.cut 9 (-1) z4 (.cut 9 (127) (.cut 2 (0) (.cut 3 (0) (.cut 4 (0) (.cut 5 (0) z3 z3) z3) z3) z3) z4)) z4)) z4)) z4)) z4)) z4)) z4)) z4))
def z10:TrX Leaf:=.cut 9 (0) z3 (.cut 9 (63) z4 z3)
def z11:TrX Leaf:=.cut 2 (-1) z4 (.cut 2 (20) (.cut 3 (-1) z4 (.cut 3 (20) (.cut 4 (-1) z4 (.cut 4 (20) (.cut 5 (-1) z4 (.cut 5 (20) (.cut 6 (-1) z4 (.cut 6 (0) (.cut 7 (-1) z4 (.cut 7 (0) (.cut 8 (-1) z4 (.cut 8 (0) (.cut 9 (-1) z4 (.cut 9 (64) (.cut 2 (0) (.cut 3 (0) (.cut 4 (0) (.cut 5 (0) z10 z10) z10) z10) z10) z4)) z4)) z4)) z4)) z4)) z4)) z4)) z4)
def c2x:TrX Leaf:=z11
def c2w:TrX Leaf:=(.cut 1 (4) z11 z4)
def c7z:TrX Leaf:=.cut 1 (3) c2x c2w
def d1l:TrX Leaf:=.cut 1 (2) c8A c7z
def d8C:TrX Leaf:=.cut 1 (1) d1m d1l
def d8E:TrX Leaf:=.cut 1 (0) d8D d8C
def c4n:CutP:=⟨none,(.nd .lf (some z1) .lf),.lf,0,10,[],c1J,(d1x []),d8E⟩
def d9n:List KE:=[]
def cbC:List CutP:=[c4n]
def d1n:Code:=match Try.f41.body with|some c=>c|none=>.skip
def d0U(c:CutP):Ivs→List Fact→Leaf→Bool:=b3c Try.prog (b6m Try.prog d9n 20000) Try.f41.ntmps [] 1000 Try.f41.results.toList d1n cbC c
def d6A:Ivs:=[a0V,a0V,a0V,a0V,a0V,a0V,a0V,a0V,a0V,a0V,(0,9223372036854775807),(0,9223372036854775807)]
def z12:TrX Leaf:=.leaf (.ret (.int .i64 (2)))
def e2j:TrX Leaf:=(.cut 0 (-1) z12 (.cut 0 (40) (.leaf (.ret (.int .i64 (3)))) z12))
def z13:TT VV:=.nd .lf (some (.sint .i64 0)) .lf
def z14:TT VV:=.nd z13 (some z1) .lf
def d9A:CutP:=⟨none,z14,.lf,0,10,[],d6A,(d1x []),e2j⟩
def d6C:List KE:=[⟨40,[z1],[],(.bool true)⟩]
def vaC:List CutP:=[d9A]
def d0w:Code:=match Try.f23.body with|some c=>c|none=>.skip
def e3g(c:CutP):Ivs→List Fact→Leaf→Bool:=b3c Try.prog (b6m Try.prog d6C 20000) Try.f23.ntmps [0] 1000 Try.f23.results.toList d0w vaC c
def d5x:Ivs:=[a0V,a0V,a0V,a0V,a0V,a0V,a0V,a0V,a0V,a0V,(0,9223372036854775807),(0,9223372036854775807)]
def z15:TrX Leaf:=.leaf (.ret (.int .i64 (10)))
def z16:TrX Leaf:=.cut 0 (-1) z12 (.cut 0 (40) z15 z12)
def e2i:TrX Leaf:=z16
def d8z:CutP:=⟨none,z14,.lf,0,10,[],d5x,(d1x (b7X true)),e2i⟩
def d5z:List KE:=[⟨40,[z1],[],(.bool false)⟩]
def vbC:List CutP:=[d8z]
def d0v:Code:=match Try.f23.body with|some c=>c|none=>.skip
def e3e(c:CutP):Ivs→List Fact→Leaf→Bool:=b3c Try.prog (b6m Try.prog d5z 20000) Try.f23.ntmps [0] 1000 Try.f23.results.toList d0v vbC c
def d5u:Ivs:=[a0V,a0V,a0V,a0V,a0V,a0V,a0V,a0V,a0V,a0V,(0,9223372036854775807),(0,9223372036854775807)]
def e2h:TrX Leaf:=z16
def d8y:CutP:=⟨none,z14,.lf,0,10,[],d5u,(d1x (b7X false)),e2h⟩
def d5w:List KE:=[⟨40,[z1],[],(.bool false)⟩,⟨41,[z1],[],(.bool false)⟩]
def vcC:List CutP:=[d8y]
def d0u:Code:=match Try.f23.body with|some c=>c|none=>.skip
def e3c(c:CutP):Ivs→List Fact→Leaf→Bool:=b3c Try.prog (b6m Try.prog d5w 20000) Try.f23.ntmps [0] 1000 Try.f23.results.toList d0u vcC c
def c3X:Ivs:=[a0V,a0V,a0V,a0V,a0V,a0V,a0V,a0V,a0V,a0V,(0,9223372036854775807),(0,9223372036854775807)]
def d2L:TrX Leaf:=z12
def d2K:TrX Leaf:=(.cut 0 (40) (.cut 1 (2) z0 (.cut 1 (3) (.leaf (.goto 2 [(.int .i64 (0))])) z0)) z12)
def d8x:TrX Leaf:=.cut 0 (-1) d2L d2K
def d0s:CutP:=⟨none,z14,.lf,0,10,[],c3X,(d1x (b7X false)),d8x⟩
def a2T:Ivs:=[a0V,a0V,a0V,a0V,a0V,a0V,a0V,a0V,a0V,a0V,(0,9223372036854775807),(0,9223372036854775807),(0,9223372036854775807),a0V,a0V,a0V,a0V,a0V,a0V,a0V,a0V,(0,1),(0,2),(0,32),a0V,a0V,a0V,a0V,a0V,(0,1000)]
def c1a:TrX Leaf:=z15
def b3k:TrX Leaf:=z15
def z17:TrX Leaf:=.cut 29 (0) z2 z15
def z18:TrX Leaf:=.cut 15 (-1) z15 (.cut 15 (0) (.cut 16 (-1) z15 (.cut 16 (0) (.cut 24 (-1) z15 (.cut 24 (0) (.cut 25 (-1) z15 (.cut 25 (0) (.cut 26 (-1) z15 (.cut 26 (0) (.cut 17 (-1) z15 (.cut 17 (20) (.cut 18 (-1) z15 (.cut 18 (20) (.cut 19 (-1) z15 (.cut 19 (20) (.cut 20 (-1) z15 (.cut 20 (20) z17 z15)) z15)) z15)) z15)) z15)) z15)) z15)) z15)) z15)
def b1h:TrX Leaf:=z18
def a9o:TrX Leaf:=(.cut 17 (-1) z15 (.cut 17 (0) (.cut 18 (-1) z15 (.cut 18 (0) (.cut 19 (-1) z15 (.cut 19 (0) (.cut 20 (-1) z15 (.cut 20 (0) (.cut 24 (-1) z15 (.cut 24 (0) (.cut 25 (-1) z15 (.cut 25 (0) (.cut 26 (-1) z15 (.cut 26 (0) (.cut 15 (0) z15 (.cut 15 (6) (.cut 16 (-1) z15 (.cut 16 (2) z17 z15)) z15)) z15)) z15)) z15)) z15)) z15)) z15)) z15))
def z19:TrX Leaf:=.cut 25 (0) z15 (.cut 25 (127) (.cut 26 (-1) z15 (.cut 26 (0) z2 z15)) z15)
def a7v:TrX Leaf:=(.cut 17 (-1) z15 (.cut 17 (0) (.cut 18 (-1) z15 (.cut 18 (0) (.cut 19 (-1) z15 (.cut 19 (0) (.cut 20 (-1) z15 (.cut 20 (0) (.cut 23 (0) (.cut 15 (-1) z15 (.cut 15 (0) (.cut 16 (-1) z15 (.cut 16 (3) (.cut 24 (0) z15 (.cut 24 (1) z19 (.cut 24 (2) z19 (.cut 24 (3) (.cut 25 (-1) z15 (.cut 25 (15) (.cut 26 (-1) z15 (.cut 26 (15) z2 z15)) z15)) (.cut 24 (4) (.cut 25 (-16) z15 (.cut 25 (15) (.cut 26 (-16) z15 (.cut 26 (15) z2 z15)) z15)) z15))))) z15)) z15)) z15) z15)) z15)) z15)) z15))
def z20:TrX Leaf:=.cut 16 (-1) z15 (.cut 16 (1) (.cut 25 (-1) z15 (.cut 25 (0) z2 z15)) z15)
def a7u:TrX Leaf:=(.cut 17 (-1) z15 (.cut 17 (0) (.cut 18 (-1) z15 (.cut 18 (0) (.cut 19 (-1) z15 (.cut 19 (0) (.cut 20 (-1) z15 (.cut 20 (0) (.cut 23 (0) (.cut 24 (-1) z15 (.cut 24 (0) (.cut 26 (-1) z15 (.cut 26 (0) (.cut 15 (0) z15 (.cut 15 (1) (.cut 16 (-1) z15 (.cut 16 (0) (.cut 25 (0) z15 (.cut 25 (999) z2 z15)) z15)) (.cut 15 (2) z20 (.cut 15 (3) (.cut 16 (-1) z15 (.cut 16 (0) (.cut 25 (-1) z15 (.cut 25 (999) z2 z15)) z15)) (.cut 15 (4) z20 z15))))) z15)) z15)) z15) z15)) z15)) z15)) z15))
def a9n:TrX Leaf:=.cut 14 (4) a7v a7u
def b1g:TrX Leaf:=.cut 14 (3) a9o a9n
def b3j:TrX Leaf:=.cut 14 (2) b1h b1g
def b6S:TrX Leaf:=.cut 14 (1) b3k b3j
def b6R:TrX Leaf:=z15
def c1Z:TrX Leaf:=.cut 14 (5) b6S b6R
def c4z:TrX Leaf:=.cut 14 (0) c1a c1Z
def z21:TrX Leaf:=.cut 15 (-1) z15 (.cut 15 (0) (.cut 16 (-1) z15 (.cut 16 (0) (.cut 24 (-1) z15 (.cut 24 (0) (.cut 25 (-1) z15 (.cut 25 (0) (.cut 26 (-1) z15 (.cut 26 (0) (.cut 17 (-1) z15 (.cut 17 (20) (.cut 18 (-1) z15 (.cut 18 (20) (.cut 19 (-1) z15 (.cut 19 (20) (.cut 20 (-1) z15 (.cut 20 (20) (.cut 27 (0) z15 (.cut 27 (6) z17 z15)) z15)) z15)) z15)) z15)) z15)) z15)) z15)) z15)) z15)
def z22:TrX Leaf:=.cut 17 (-1) z15 (.cut 17 (0) (.cut 18 (-1) z15 (.cut 18 (0) (.cut 19 (-1) z15 (.cut 19 (0) (.cut 20 (-1) z15 (.cut 20 (0) z15 z15)) z15)) z15)) z15)
def z23:TrX Leaf:=.cut 14 (3) (.cut 17 (-1) z15 (.cut 17 (0) (.cut 18 (-1) z15 (.cut 18 (0) (.cut 19 (-1) z15 (.cut 19 (0) (.cut 20 (-1) z15 (.cut 20 (0) (.cut 24 (-1) z15 (.cut 24 (0) (.cut 25 (-1) z15 (.cut 25 (0) (.cut 26 (-1) z15 (.cut 26 (0) z15 z15)) z15)) z15)) z15)) z15)) z15)) z15)) (.cut 14 (4) z22 z22)
def c1Y:TrX Leaf:=(.cut 14 (0) z15 (.cut 14 (5) (.cut 14 (1) z15 (.cut 14 (2) z21 z23)) z15))
def z24:TrX Leaf:=.cut 15 (-1) z15 (.cut 15 (0) (.cut 16 (-1) z15 (.cut 16 (0) (.cut 24 (-1) z15 (.cut 24 (0) (.cut 25 (-1) z15 (.cut 25 (0) (.cut 26 (-1) z15 (.cut 26 (0) (.cut 17 (-1) z15 (.cut 17 (20) (.cut 18 (-1) z15 (.cut 18 (20) (.cut 19 (-1) z15 (.cut 19 (20) (.cut 20 (-1) z15 (.cut 20 (20) (.cut 27 (0) z15 (.cut 27 (6) (.cut 28 (0) z15 (.cut 28 (6) z17 z15)) z15)) z15)) z15)) z15)) z15)) z15)) z15)) z15)) z15)) z15)
def c1X:TrX Leaf:=(.cut 14 (0) z15 (.cut 14 (5) (.cut 14 (1) z15 (.cut 14 (2) z24 z23)) z15))
def c4y:TrX Leaf:=.cut 22 (1) c1Y c1X
def d0r:TrX Leaf:=.cut 22 (0) c4z c4y
def z25:TrX Leaf:=.cut 14 (3) z22 (.cut 14 (4) z22 z22)
def c4x:TrX Leaf:=(.cut 14 (0) z15 (.cut 14 (5) (.cut 14 (1) z15 (.cut 14 (2) z18 z25)) z15))
def c1W:TrX Leaf:=(.cut 14 (0) z15 (.cut 14 (5) (.cut 14 (1) z15 (.cut 14 (2) z21 z25)) z15))
def c1V:TrX Leaf:=(.cut 14 (0) z15 (.cut 14 (5) (.cut 14 (1) z15 (.cut 14 (2) z24 z25)) z15))
def c4w:TrX Leaf:=.cut 22 (1) c1W c1V
def d0q:TrX Leaf:=.cut 22 (0) c4x c4w
def c3U:TrX Leaf:=.cut 21 (0) d0r d0q
def z26:TrX Leaf:=.leaf (.ret (.int .i64 (0)))
def d5p:TrX Leaf:=z26
def e2g:TrX Leaf:=.rel .i64 12 11 c3U d5p
def z27:TT VV:=.nd z6 (some .any) z5
def z28:TT VV:=.nd z27 (some .any) z7
def z29:TT VV:=.nd (.nd (.nd (.nd z5 (some (.sint .i64 11)) .lf) (some .any) z5) (some .any) z7) (some .any) z28
def z30:TT VV:=.nd (.nd (.nd (.nd (.nd z5 (some (.sint .i64 12)) .lf) (some .any) z5) (some .any) z7) (some (.int .i64 (0))) z28) (some (.ptr (some ⟨(.loc 0),0⟩))) (.nd z28 (some .any) (.nd z7 (some .any) (.nd z5 (some (.sym 1)) z5)))
def a8v:CutP:=⟨some 0,(.nd (.nd z29 (some (.sint .i64 0)) (.nd z28 (some (.bool false)) z8)) (some .any) z30),z9,1,12,[(.sint .i64 12)],a2T,(c1T (b7X false)),e2g⟩
def c8n:Ivs:=[a0V,a0V,a0V,a0V,a0V,a0V,a0V,a0V,a0V,a0V,(0,9223372036854775807),(0,9223372036854775807),(0,9223372036854775807),a0V,a0V,a0V,a0V,a0V,a0V,a0V,a0V,(0,1),(0,2),(0,32),a0V,a0V,a0V,a0V,a0V,(0,1000)]
def z31:TrX Leaf:=.cut 29 (0) (.leaf (.goto 2 [(.sint .i64 13)])) z15
def z32:TrX Leaf:=.cut 14 (0) z15 (.cut 14 (5) (.cut 14 (1) z22 z15) z15)
def c3T:TrX Leaf:=(.cut 21 (0) (.cut 22 (0) (.cut 14 (0) z15 (.cut 14 (5) (.cut 14 (1) (.cut 17 (-1) z15 (.cut 17 (0) (.cut 18 (-1) z15 (.cut 18 (0) (.cut 19 (-1) z15 (.cut 19 (0) (.cut 20 (-1) z15 (.cut 20 (0) (.cut 15 (-1) z15 (.cut 15 (0) (.cut 16 (-1) z15 (.cut 16 (0) (.cut 24 (-1) z15 (.cut 24 (0) (.cut 25 (-1) z15 (.cut 25 (0) (.cut 26 (-1) z15 (.cut 26 (0) z31 z15)) z15)) z15)) z15)) z15)) z15)) z15)) z15)) z15)) z15) z15)) (.cut 22 (1) (.cut 14 (0) z15 (.cut 14 (5) (.cut 14 (1) (.cut 17 (-1) z15 (.cut 17 (0) (.cut 18 (-1) z15 (.cut 18 (0) (.cut 19 (-1) z15 (.cut 19 (0) (.cut 20 (-1) z15 (.cut 20 (0) (.cut 15 (-1) z15 (.cut 15 (0) (.cut 16 (-1) z15 (.cut 16 (0) (.cut 24 (-1) z15 (.cut 24 (0) (.cut 25 (-1) z15 (.cut 25 (0) (.cut 26 (-1) z15 (.cut 26 (0) (.cut 27 (0) z15 (.cut 27 (6) z31 z15)) z15)) z15)) z15)) z15)) z15)) z15)) z15)) z15)) z15)) z15) z15)) (.cut 14 (0) z15 (.cut 14 (5) (.cut 14 (1) (.cut 17 (-1) z15 (.cut 17 (0) (.cut 18 (-1) z15 (.cut 18 (0) (.cut 19 (-1) z15 (.cut 19 (0) (.cut 20 (-1) z15 (.cut 20 (0) (.cut 15 (-1) z15 (.cut 15 (0) (.cut 16 (-1) z15 (.cut 16 (0) (.cut 24 (-1) z15 (.cut 24 (0) (.cut 25 (-1) z15 (.cut 25 (0) (.cut 26 (-1) z15 (.cut 26 (0) (.cut 27 (0) z15 (.cut 27 (6) (.cut 28 (0) z15 (.cut 28 (6) z31 z15)) z15)) z15)) z15)) z15)) z15)) z15)) z15)) z15)) z15)) z15)) z15) z15)))) (.cut 22 (0) z32 (.cut 22 (1) z32 z32)))
def d2J:TrX Leaf:=(.cut 11 (0) z15 (.cut 11 (1) z26 z15))
def e2f:TrX Leaf:=.rel .i64 12 11 c3T d2J
def d5L:CutP:=⟨some 0,(.nd (.nd z29 (some (.sint .i64 0)) (.nd z28 (some (.bool true)) z8)) (some .any) z30),z9,1,12,[(.sint .i64 12)],c8n,(c1T (b7X false)),e2f⟩
def d5t:List KE:=[⟨40,[z1],[],(.bool false)⟩,⟨41,[z1],[],(.bool true)⟩,⟨83,[(.sym 33),(.sint .i64 22),(.sint .i64 0)],[],(.sint .i64 29)⟩]
def vdC:List CutP:=[d0s,a8v,d5L]
def d0t:Code:=match Try.f23.body with|some c=>c|none=>.skip
def a7Q(c:CutP):Ivs→List Fact→Leaf→Bool:=b3c Try.prog (b6m Try.prog d5t 20000) Try.f23.ntmps [0] 1000 Try.f23.results.toList d0t vdC c
def d0T:Ivs:=[a0V,a0V,(0,9223372036854775807)]
def d7y:TrX Leaf:=z12
def d7x:TrX Leaf:=(.cut 0 (2) (.cut 1 (-1) z12 (.cut 1 (40) (.cut 2 (32) z0 (.leaf (.ret (.int .i64 (3))))) z12)) z12)
def e3P:TrX Leaf:=.cut 0 (-1) d7y d7x
def d5Z:CutP:=⟨none,(.nd z13 (some (.sym 0)) (.nd .lf (some (.sint .i64 1)) .lf)),.lf,0,10,[],d0T,e2O,e3P⟩
def a9d:Ivs:=[(0,2),(0,40),(0,32),(0,32),(1,33),a0V,a0V,a0V,a0V]
def z33:TrX Leaf:=.leaf (.ret (.int .i64 (9)))
def d1j:TrX Leaf:=z33
def z34:TrX Leaf:=.leaf (.goto 1 [(.sint .i64 4)])
def z35:TrX Leaf:=.cut 8 (-1) z33 (.cut 8 (0) z34 z33)
def c2v:TrX Leaf:=(.cut 7 (-1000) z33 (.cut 7 (999) z35 z33))
def z36:TrX Leaf:=.cut 7 (-1) z33 (.cut 7 (0) z35 z33)
def b8r:TrX Leaf:=z36
def b4T:TrX Leaf:=z36
def b2z:TrX Leaf:=z36
def b0f:TrX Leaf:=z36
def z37:TrX Leaf:=.cut 7 (4) z33 (.cut 7 (7) z35 z33)
def a8k:TrX Leaf:=z37
def a7P:TrX Leaf:=(.cut 7 (-1) z33 (.rel .i64 7 0 z35 (.cut 7 (2) z33 (.cut 7 (3) z35 z33))))
def z38:TrX Leaf:=.cut 7 (-1) z33 (.rel .i64 2 7 z33 z35)
def a6M:TrX Leaf:=z38
def a4y:TrX Leaf:=z38
def a4R:TrX Leaf:=(.cut 7 (-1) z33 (.rel .i64 7 0 z35 (.cut 7 (1) z33 (.cut 7 (7) z35 z33))))
def z39:TrX Leaf:=.cut 7 (-1) z33 (.rel .i64 7 0 z35 (.cut 7 (2) z33 (.cut 7 (3) z35 (.cut 7 (4) z35 z33))))
def a3r:TrX Leaf:=z39
def a3c:TrX Leaf:=z39
def z40:TrX Leaf:=.cut 7 (-1) z33 (.rel .i64 7 0 z35 (.cut 7 (1) z33 (.cut 7 (2) z35 z37)))
def a3E:TrX Leaf:=z40
def a2s:TrX Leaf:=z40
def z41:TrX Leaf:=.cut 8 (0) z33 (.cut 8 (127) z34 z33)
def z42:TrX Leaf:=.cut 8 (-1) z33 (.rel .i64 8 1 z34 z33)
def a2r:TrX Leaf:=(.cut 6 (15) z40 (.cut 6 (16) z40 (.cut 6 (17) (.cut 7 (-1) z33 (.rel .i64 7 0 z41 (.cut 7 (1) z33 (.cut 7 (2) z41 (.cut 7 (4) z33 (.cut 7 (7) z41 z33)))))) (.cut 6 (18) z40 (.cut 6 (19) z40 (.cut 6 (20) (.cut 7 (-1) z33 (.rel .i64 7 0 z35 z33)) (.cut 6 (21) (.cut 7 (-1) z33 (.rel .i64 7 0 z42 (.cut 7 (2) z33 (.cut 7 (3) z42 (.cut 7 (4) z42 z33))))) (.cut 6 (22) (.cut 7 (-1) z33 (.cut 7 (3) z35 z33)) (.cut 6 (23) (.cut 7 (0) z33 (.cut 7 (999) z35 z33)) z36)))))))))
def a3D:TrX Leaf:=.cut 6 (14) a2s a2r
def a3b:TrX Leaf:=.cut 6 (13) a3E a3D
def a3q:TrX Leaf:=.cut 6 (12) a3c a3b
def a4Q:TrX Leaf:=.cut 6 (11) a3r a3q
def a4x:TrX Leaf:=.cut 6 (10) a4R a4Q
def a6L:TrX Leaf:=.cut 6 (9) a4y a4x
def a7O:TrX Leaf:=.cut 6 (8) a6M a6L
def a8j:TrX Leaf:=.cut 6 (7) a7P a7O
def b0e:TrX Leaf:=.cut 6 (6) a8k a8j
def b2y:TrX Leaf:=.cut 6 (5) b0f b0e
def b4S:TrX Leaf:=.cut 6 (4) b2z b2y
def b8q:TrX Leaf:=.cut 6 (3) b4T b4S
def c2u:TrX Leaf:=.cut 6 (2) b8r b8q
def c7w:TrX Leaf:=.cut 6 (1) c2v c2u
def c7v:TrX Leaf:=z33
def d1i:TrX Leaf:=.cut 6 (24) c7w c7v
def b3d:TrX Leaf:=.cut 6 (0) d1j d1i
def d7w:TrX Leaf:=z26
def e3O:TrX Leaf:=.rel .i64 3 2 b3d d7w
def z43:TT VO:=.nd .lf (some (.cells [(.int .i64 (4))] none 0 none)) .lf
def z44:TT VO:=.nd .lf (some (.cells [(.int .i64 (2))] none 0 none)) .lf
def z45:TT VO:=.nd .lf (some (.cells [(.int .i64 (1))] none 0 none)) .lf
def a5F:CutP:=⟨some 0,(.nd (.nd (.nd (.nd z27 (some (.ptr (some ⟨(.loc 0),0⟩))) z27) (some .any) z28) (some .any) (.nd (.nd z27 (some .any) z27) (some .any) (.nd (.nd (.nd z5 (some (.sint .i64 2)) .lf) (some .any) z5) (some .any) z7))) (some .any) (.nd (.nd (.nd z27 (some (.ptr (some ⟨(.loc 1),0⟩))) z27) (some .any) (.nd (.nd (.nd z5 (some (.sym 0)) .lf) (some .any) z5) (some .any) z7)) (some .any) (.nd (.nd z27 (some .any) z27) (some (.int .i64 (0))) (.nd (.nd (.nd z5 (some (.sint .i64 3)) .lf) (some .any) z5) (some .any) z7)))),(.nd (.nd (.nd (.nd (.nd .lf (some (.cells [(.func (.func 92) [] []),(.func (.func 95) [] [(.ptr (some ⟨(.loc 8),0⟩)),(.ptr (some ⟨(.loc 9),0⟩))]),(.func (.func 95) [] [(.ptr (some ⟨(.loc 16),0⟩)),(.ptr (some ⟨(.loc 17),0⟩))])] none 0 none)) .lf) (some (.cells [(.func (.func 92) [] []),(.func (.func 95) [] [(.ptr (some ⟨(.loc 8),0⟩)),(.ptr (some ⟨(.loc 9),0⟩))])] none 0 none)) (.nd .lf (some (.cells [(.int .i64 (127))] none 0 none)) .lf)) (some (.cells [(.int .i64 (999))] none 0 none)) (.nd (.nd .lf (some (.cells [(.func (.func 92) [] []),(.func (.func 95) [] [(.ptr (some ⟨(.loc 20),0⟩)),(.ptr (some ⟨(.loc 21),0⟩))]),(.func (.func 95) [] [(.ptr (some ⟨(.loc 4),0⟩)),(.ptr (some ⟨(.loc 5),0⟩))])] none 0 none)) .lf) (some (.cells [(.func (.func 92) [] []),(.func (.func 95) [] [(.ptr (some ⟨(.loc 12),0⟩)),(.ptr (some ⟨(.loc 13),0⟩))])] none 0 none)) (.nd .lf (some (.cells [(.int .i64 (999))] none 0 none)) .lf))) (some (.cells [(.string ⟨#[63]⟩),.nilFunc,.nilFunc,(.string ⟨#[110,117,109]⟩),(.func (.func 95) [] [(.ptr (some ⟨(.loc 2),0⟩)),(.ptr (some ⟨(.loc 3),0⟩))]),.nilFunc,(.string ⟨#[97,100,100]⟩),.nilFunc,.nilFunc,(.string ⟨#[115,117,98]⟩),.nilFunc,.nilFunc,(.string ⟨#[109,117,108]⟩),.nilFunc,.nilFunc,(.string ⟨#[108,101,115,115]⟩),.nilFunc,.nilFunc,(.string ⟨#[99,111,117,110,116]⟩),(.func (.func 95) [] [(.ptr (some ⟨(.loc 4),0⟩)),(.ptr (some ⟨(.loc 5),0⟩))]),.nilFunc,(.string ⟨#[108,105,102,101]⟩),(.func (.func 96) [] [(.ptr (some ⟨(.loc 6),0⟩))]),.nilFunc,(.string ⟨#[106,117,109,112]⟩),(.func (.func 93) [] []),.nilFunc,(.string ⟨#[122,101,114,111]⟩),(.func (.func 93) [] []),.nilFunc,(.string ⟨#[104,117,114,116]⟩),(.func (.func 96) [] [(.ptr (some ⟨(.loc 10),0⟩))]),.nilFunc,(.string ⟨#[103,97,105,110]⟩),(.func (.func 96) [] [(.ptr (some ⟨(.loc 14),0⟩))]),.nilFunc,(.string ⟨#[100,114,97,119]⟩),(.func (.func 96) [] [(.ptr (some ⟨(.loc 14),0⟩))]),.nilFunc,(.string ⟨#[107,105,108,108]⟩),(.func (.func 96) [] [(.ptr (some ⟨(.loc 18),0⟩))]),.nilFunc,(.string ⟨#[98,111,117,110,99,101]⟩),(.func (.func 96) [] [(.ptr (some ⟨(.loc 18),0⟩))]),.nilFunc,(.string ⟨#[98,97,110,105,115,104]⟩),(.func (.func 96) [] [(.ptr (some ⟨(.loc 18),0⟩))]),.nilFunc,(.string ⟨#[112,117,109,112]⟩),(.func (.func 96) [] [(.ptr (some ⟨(.loc 18),0⟩))]),.nilFunc,(.string ⟨#[103,114,97,110,116]⟩),(.func (.func 96) [] [(.ptr (some ⟨(.loc 18),0⟩))]),(.func (.func 95) [] [(.ptr (some ⟨(.loc 22),0⟩)),(.ptr (some ⟨(.loc 23),0⟩))]),(.string ⟨#[116,97,112]⟩),(.func (.func 96) [] [(.ptr (some ⟨(.loc 18),0⟩))]),.nilFunc,(.string ⟨#[117,110,116,97,112]⟩),(.func (.func 96) [] [(.ptr (some ⟨(.loc 18),0⟩))]),.nilFunc,(.string ⟨#[99,111,117,110,116,101,114]⟩),(.func (.func 92) [] []),.nilFunc,(.string ⟨#[116,111,107,101,110]⟩),(.func (.func 96) [] [(.ptr (some ⟨(.loc 14),0⟩))]),(.func (.func 94) [] []),(.string ⟨#[109,97,110,97]⟩),(.func (.func 95) [] [(.ptr (some ⟨(.loc 24),0⟩)),(.ptr (some ⟨(.loc 25),0⟩))]),.nilFunc,(.string ⟨#[114,111,108,108]⟩),(.func (.func 95) [] [(.ptr (some ⟨(.loc 26),0⟩)),(.ptr (some ⟨(.loc 27),0⟩))]),.nilFunc,(.string ⟨#[101,110,100]⟩),.nilFunc,.nilFunc] none 0 (some 119))) (.nd (.nd z43 (some (.cells [(.int .i64 (3))] none 0 none)) (.nd .lf (some (.cells [(.int .i64 (3))] none 0 none)) .lf)) (some (.cells [(.int .i64 (7))] none 0 none)) (.nd z44 (some (.cells [(.int .i64 (7))] none 0 none)) .lf))) (some (.cells [(.sint .i64 2),(.sint .i64 0),(.sint .i64 1)] none 0 (some 115))) (.nd (.nd (.nd z43 (some (.cells [(.int .i64 (3))] none 0 none)) (.nd .lf (some (.cells [(.int .i64 (0))] none 0 none)) .lf)) (some (.cells [(.int .i64 (5))] none 0 none)) (.nd z44 (some (.cells [(.int .i64 (2))] none 0 none)) .lf)) (some (.cells [(.int .i64 (-999))] none 0 none)) (.nd (.nd (.nd .lf (some (.cells [(.slice (some ⟨(.loc 19),0⟩) 3 3)] none 0 none)) .lf) (some (.cells [(.slice (some ⟨(.loc 11),0⟩) 2 2)] none 0 none)) z45) (some (.cells [(.slice (some ⟨(.loc 7),0⟩) 2 2)] none 0 none)) (.nd z45 (some (.cells [(.slice (some ⟨(.loc 15),0⟩) 3 3)] none 0 none)) .lf)))),28,3,[(.sint .i64 3)],a9d,c8M,e3O⟩
def d9m:List KE:=[]
def ccC:List CutP:=[d5Z,a5F]
def d1k:Code:=match Try.f83.body with|some c=>c|none=>.skip
def a4z(c:CutP):Ivs→List Fact→Leaf→Bool:=b3c Try.prog (b6m Try.prog d9m 20000) Try.f83.ntmps [0] 1000 Try.f83.results.toList d1k ccC c
def z46:List Fact:=.bin .lss (.sint .i64 12) (.sint .i64 11) (.bool true)::[]
theorem d9u:a0p (a7Q d5L) c3T c8n z46=true:=by kernel_rfl
def z47:Ivs:=a0n (a2K a2T 21 (0)) 22 (0+1)
theorem c8j:a0p (a7Q a8v) c1X (a0n z47 22 (1+1)) z46=true:=by kernel_rfl
def z48:Ivs:=a2K (a2K a2T 21 (0)) 22 (0)
def z49:Ivs:=a2K (a0n z48 14 (0+1)) 14 (5)
def z50:Ivs:=a0n (a0n z49 14 (1+1)) 14 (2+1)
theorem b4a:a0p (a7Q a8v) a7v (a2K (a0n z50 14 (3+1)) 14 (4)) z46=true:=by kernel_rfl
def z51:Ivs:=a0n (a0n c1J 1 (0+1)) 1 (1+1)
theorem d4l:a0p (d0U c4n) c8A (a2K z51 1 (2)) []=true:=by kernel_rfl
def z52:Ivs:=a2K (a0n a9d 6 (0+1)) 6 (24)
def z53:Ivs:=a0n (a0n z52 6 (1+1)) 6 (2+1)
def z54:Ivs:=a0n (a0n z53 6 (3+1)) 6 (4+1)
def z55:Ivs:=a0n (a0n z54 6 (5+1)) 6 (6+1)
def z56:List Fact:=.bin .lss (.sint .i64 3) (.sint .i64 2) (.bool true)::[]
theorem b3f:a0p (a4z a5F) a7P (a2K z55 6 (7)) z56=true:=by kernel_rfl
theorem b8t:a0p (a4z a5F) b0f (a2K z54 6 (5)) z56=true:=by kernel_rfl
theorem e2C:a0p (d0U c4n) d8D (a2K c1J 1 (0)) []=true:=by kernel_rfl
theorem c8m:a0p (a7Q a8v) c1a (a2K z48 14 (0)) z46=true:=by kernel_rfl
def z57:List Fact:=.bin .lss (.sint .i64 12) (.sint .i64 11) (.bool false)::[]
theorem d9v:a0p (a7Q a8v) d5p a2T z57=true:=by kernel_rfl
def z58:Ivs:=a0n (a0n z55 6 (7+1)) 6 (8+1)
def z59:Ivs:=a0n (a0n z58 6 (9+1)) 6 (10+1)
def z60:Ivs:=a0n (a0n z59 6 (11+1)) 6 (12+1)
theorem a6N:a0p (a4z a5F) a2r (a0n (a0n z60 6 (13+1)) 6 (14+1)) z56=true:=by kernel_rfl
theorem c8k:a0p (a7Q a8v) c1Y (a2K z47 22 (1)) z46=true:=by kernel_rfl
theorem a8m:a0p (a4z a5F) a3r (a2K z59 6 (11)) z56=true:=by kernel_rfl
theorem d9x:a0p (a7Q d0s) d2K (a0n c3X 0 (-1+1)) []=true:=by kernel_rfl
theorem b1E:a0p (a4z a5F) a4y (a2K z58 6 (9)) z56=true:=by kernel_rfl
theorem c1I:a0p (a4z a5F) b2z (a2K (a0n z53 6 (3+1)) 6 (4)) z56=true:=by kernel_rfl
theorem c5A:a0p (a7Q a8v) b6R (a0n (a0n z48 14 (0+1)) 14 (5+1)) z46=true:=by kernel_rfl
theorem d4h:a0p (a4z a5F) c7v (a0n (a0n a9d 6 (0+1)) 6 (24+1)) z56=true:=by kernel_rfl
theorem b9n:a0p (a7Q a8v) b1h (a2K (a0n z49 14 (1+1)) 14 (2)) z46=true:=by kernel_rfl
theorem a7k:a0p (a4z a5F) a3c (a2K (a0n z59 6 (11+1)) 6 (12)) z56=true:=by kernel_rfl
theorem b3B:a0p (a4z a5F) a6M (a2K (a0n z55 6 (7+1)) 6 (8)) z56=true:=by kernel_rfl
theorem c7y:a0p (a4z a5F) b8r (a2K (a0n z52 6 (1+1)) 6 (2)) z56=true:=by kernel_rfl
theorem e1t:a0p (d9h d5Y) d7m c7r z57=true:=by kernel_rfl
theorem d9y:a0p (a7Q d0s) d2L (a2K c3X 0 (-1)) []=true:=by kernel_rfl
theorem e4d:a0p (d9h d9i) e3I d7o []=true:=by kernel_rfl
theorem e1x:a0p (a4z a5F) d7w a9d (.bin .lss (.sint .i64 3) (.sint .i64 2) (.bool false)::[])=true:=by kernel_rfl
def z61:Ivs:=a0n (a0n a2T 21 (0+1)) 22 (0+1)
theorem c8h:a0p (a7Q a8v) c1V (a0n z61 22 (1+1)) z46=true:=by kernel_rfl
theorem b6U:a0p (a7Q a8v) a9o (a2K z50 14 (3)) z46=true:=by kernel_rfl
theorem a6O:a0p (a4z a5F) a2s (a2K (a0n z60 6 (13+1)) 6 (14)) z56=true:=by kernel_rfl
theorem b5w:a0p (a4z a5F) a8k (a2K (a0n z54 6 (5+1)) 6 (6)) z56=true:=by kernel_rfl
theorem e3d:a0p (e3c d8y) e2h d5u []=true:=by kernel_rfl
theorem e3f:a0p (e3e d8z) e2i d5x []=true:=by kernel_rfl
theorem e3i:a0p (e3g d9A) e2j d6A []=true:=by kernel_rfl
theorem c3W:a0p (a7Q a8v) b3k (a2K z49 14 (1)) z46=true:=by kernel_rfl
theorem d9t:a0p (a7Q d5L) d2J c8n z57=true:=by kernel_rfl
theorem e2A:a0p (a4z d5Z) d7y (a2K d0T 0 (-1)) []=true:=by kernel_rfl
theorem d0W:a0p (d0U c4n) c2x (a2K (a0n z51 1 (2+1)) 1 (3)) []=true:=by kernel_rfl
theorem d2N:a0p (a7Q a8v) c4x (a2K (a0n a2T 21 (0+1)) 22 (0)) z46=true:=by kernel_rfl
theorem e1z:a0p (a4z d5Z) d7x (a0n d0T 0 (-1+1)) []=true:=by kernel_rfl
theorem d0S:a0p (a4z a5F) c2v (a2K z52 6 (1)) z56=true:=by kernel_rfl
theorem c4a:a0p (a4z a5F) b4T (a2K z53 6 (3)) z56=true:=by kernel_rfl
theorem d0V:a0p (d0U c4n) c2w (a0n (a0n z51 1 (2+1)) 1 (3+1)) []=true:=by kernel_rfl
theorem c8i:a0p (a7Q a8v) c1W (a2K z61 22 (1)) z46=true:=by kernel_rfl
theorem b4Z:a0p (a7Q a8v) a7u (a0n (a0n z50 14 (3+1)) 14 (4+1)) z46=true:=by kernel_rfl
theorem d8G:a0p (d0U c4n) d1m (a2K (a0n c1J 1 (0+1)) 1 (1)) []=true:=by kernel_rfl
theorem a7A:a0p (a4z a5F) a3E (a2K z60 6 (13)) z56=true:=by kernel_rfl
theorem a9c:a0p (a4z a5F) a4R (a2K (a0n z58 6 (9+1)) 6 (10)) z56=true:=by kernel_rfl
theorem e1u:a0p (d9h d5Y) d7n c7r z46=true:=by kernel_rfl
theorem d8A:a0p (a4z a5F) d1j (a2K a9d 6 (0)) z56=true:=by kernel_rfl
theorem e4c:Go.Ev.a0p (d9h d5Y) e3H c7r []=true:=Go.Ev.b1Z e1u e1t
theorem d7p: @Go.Ev.Auto (Go.Ev.b2i Try.prog d9j) Try.prog (Go.Ev.b6m Try.prog d9j 20000) Try.f40 d1c [0] 1000 clC (fun _=>none):=Go.Ev.a7l c9f mixed (by kernel_rfl) ⟨e4d,e4c,trivial⟩ ⟨(fun _ _=>rfl),(b3G []),trivial⟩
def z62:Ivs:=Go.Ev.a0n (Go.Ev.a0n c1J 1 (0+1)) 1 (1+1)
theorem d4k:Go.Ev.a0p (d0U c4n) c7z (Go.Ev.a0n z62 1 (2+1)) []=true:=Go.Ev.a0O d0W d0V
theorem d8F:Go.Ev.a0p (d0U c4n) d1l z62 []=true:=Go.Ev.a0O d4l d4k
theorem e2B:Go.Ev.a0p (d0U c4n) d8C (Go.Ev.a0n c1J 1 (0+1)) []=true:=Go.Ev.a0O d8G d8F
theorem e4j:Go.Ev.a0p (d0U c4n) d8E c1J []=true:=Go.Ev.a0O e2C e2B
theorem d8H: @Go.Ev.Auto (Go.Ev.b2i Try.prog d9n) Try.prog (Go.Ev.b6m Try.prog d9n 20000) Try.f41 d1n [] 1000 cbC (fun _=>none):=Go.Ev.a7l c9f mixed (by kernel_rfl) ⟨e4j,trivial⟩ ⟨(fun _ _=>rfl),trivial⟩
theorem d6B: @Go.Ev.Auto (Go.Ev.b2i Try.prog d6C) Try.prog (Go.Ev.b6m Try.prog d6C 20000) Try.f23 d0w [0] 1000 vaC (fun _=>none):=Go.Ev.a7l c9f mixed (by kernel_rfl) ⟨e3i,trivial⟩ ⟨(fun _ _=>rfl),trivial⟩
theorem d5y: @Go.Ev.Auto (Go.Ev.b2i Try.prog d5z) Try.prog (Go.Ev.b6m Try.prog d5z 20000) Try.f23 d0v [0] 1000 vbC (fun _=>none):=Go.Ev.a7l c9f mixed (by kernel_rfl) ⟨e3f,trivial⟩ ⟨(fun _ _=>rfl),trivial⟩
theorem d5v: @Go.Ev.Auto (Go.Ev.b2i Try.prog d5w) Try.prog (Go.Ev.b6m Try.prog d5w 20000) Try.f23 d0u [0] 1000 vcC (fun _=>none):=Go.Ev.a7l c9f mixed (by kernel_rfl) ⟨e3d,trivial⟩ ⟨(fun _ _=>rfl),trivial⟩
theorem e3b:Go.Ev.a0p (a7Q d0s) d8x c3X []=true:=Go.Ev.a0O d9y d9x
def z63:Ivs:=Go.Ev.a2K a2T 21 (0)
def z64:Ivs:=Go.Ev.a0n (Go.Ev.a2K z63 22 (0)) 14 (0+1)
def z65:Ivs:=Go.Ev.a0n (Go.Ev.a2K z64 14 (5)) 14 (1+1)
theorem b6T:Go.Ev.a0p (a7Q a8v) a9n (Go.Ev.a0n (Go.Ev.a0n z65 14 (2+1)) 14 (3+1)) z46=true:=Go.Ev.a0O b4a b4Z
theorem b9m:Go.Ev.a0p (a7Q a8v) b1g (Go.Ev.a0n z65 14 (2+1)) z46=true:=Go.Ev.a0O b6U b6T
theorem c3V:Go.Ev.a0p (a7Q a8v) b3j z65 z46=true:=Go.Ev.a0O b9n b9m
theorem c5B:Go.Ev.a0p (a7Q a8v) b6S (Go.Ev.a2K z64 14 (5)) z46=true:=Go.Ev.a0O c3W c3V
theorem c8l:Go.Ev.a0p (a7Q a8v) c1Z z64 z46=true:=Go.Ev.a0O c5B c5A
theorem d2P:Go.Ev.a0p (a7Q a8v) c4z (Go.Ev.a2K z63 22 (0)) z46=true:=Go.Ev.a0O c8m c8l
theorem d2O:Go.Ev.a0p (a7Q a8v) c4y (Go.Ev.a0n z63 22 (0+1)) z46=true:=Go.Ev.a0O c8k c8j
theorem d5r:Go.Ev.a0p (a7Q a8v) d0r z63 z46=true:=Go.Ev.a0O d2P d2O
def z66:Ivs:=Go.Ev.a0n a2T 21 (0+1)
theorem d2M:Go.Ev.a0p (a7Q a8v) c4w (Go.Ev.a0n z66 22 (0+1)) z46=true:=Go.Ev.a0O c8i c8h
theorem d5q:Go.Ev.a0p (a7Q a8v) d0q z66 z46=true:=Go.Ev.a0O d2N d2M
theorem d9w:Go.Ev.a0p (a7Q a8v) c3U a2T z46=true:=Go.Ev.a0O d5r d5q
theorem e3a:Go.Ev.a0p (a7Q a8v) e2g a2T []=true:=Go.Ev.b1Z d9w d9v
theorem e3Z:Go.Ev.a0p (a7Q d5L) e2f c8n []=true:=Go.Ev.b1Z d9u d9t
theorem d5s: @Go.Ev.Auto (Go.Ev.b2i Try.prog d5t) Try.prog (Go.Ev.b6m Try.prog d5t 20000) Try.f23 d0t [0] 1000 vdC (fun _=>none):=Go.Ev.a7l c9f mixed (by kernel_rfl) ⟨e3b,e3a,e3Z,trivial⟩ ⟨(fun _ _=>rfl),(b3G (b7X false)),(b3G (b7X false)),trivial⟩
theorem e4i:Go.Ev.a0p (a4z d5Z) e3P d0T []=true:=Go.Ev.a0O e2A e1z
def z67:Ivs:=Go.Ev.a2K (Go.Ev.a0n a9d 6 (0+1)) 6 (24)
def z68:Ivs:=Go.Ev.a0n (Go.Ev.a0n z67 6 (1+1)) 6 (2+1)
def z69:Ivs:=Go.Ev.a0n (Go.Ev.a0n z68 6 (3+1)) 6 (4+1)
def z70:Ivs:=Go.Ev.a0n (Go.Ev.a0n z69 6 (5+1)) 6 (6+1)
def z71:Ivs:=Go.Ev.a0n (Go.Ev.a0n z70 6 (7+1)) 6 (8+1)
def z72:Ivs:=Go.Ev.a0n (Go.Ev.a0n z71 6 (9+1)) 6 (10+1)
def z73:Ivs:=Go.Ev.a0n (Go.Ev.a0n z72 6 (11+1)) 6 (12+1)
theorem a6z:Go.Ev.a0p (a4z a5F) a3D (Go.Ev.a0n z73 6 (13+1)) z56=true:=Go.Ev.a0O a6O a6N
theorem a7j:Go.Ev.a0p (a4z a5F) a3b z73 z56=true:=Go.Ev.a0O a7A a6z
theorem a8l:Go.Ev.a0p (a4z a5F) a3q (Go.Ev.a0n z72 6 (11+1)) z56=true:=Go.Ev.a0O a7k a7j
theorem a9b:Go.Ev.a0p (a4z a5F) a4Q z72 z56=true:=Go.Ev.a0O a8m a8l
theorem b1D:Go.Ev.a0p (a4z a5F) a4x (Go.Ev.a0n z71 6 (9+1)) z56=true:=Go.Ev.a0O a9c a9b
theorem b3A:Go.Ev.a0p (a4z a5F) a6L z71 z56=true:=Go.Ev.a0O b1E b1D
theorem b3e:Go.Ev.a0p (a4z a5F) a7O (Go.Ev.a0n z70 6 (7+1)) z56=true:=Go.Ev.a0O b3B b3A
theorem b5v:Go.Ev.a0p (a4z a5F) a8j z70 z56=true:=Go.Ev.a0O b3f b3e
theorem b8s:Go.Ev.a0p (a4z a5F) b0e (Go.Ev.a0n z69 6 (5+1)) z56=true:=Go.Ev.a0O b5w b5v
theorem c1H:Go.Ev.a0p (a4z a5F) b2y z69 z56=true:=Go.Ev.a0O b8t b8s
theorem c4Z:Go.Ev.a0p (a4z a5F) b4S (Go.Ev.a0n z68 6 (3+1)) z56=true:=Go.Ev.a0O c1I c1H
theorem c7x:Go.Ev.a0p (a4z a5F) b8q z68 z56=true:=Go.Ev.a0O c4a c4Z
theorem d0R:Go.Ev.a0p (a4z a5F) c2u (Go.Ev.a0n z67 6 (1+1)) z56=true:=Go.Ev.a0O c7y c7x
theorem d4i:Go.Ev.a0p (a4z a5F) c7w z67 z56=true:=Go.Ev.a0O d0S d0R
theorem d7z:Go.Ev.a0p (a4z a5F) d1i (Go.Ev.a0n a9d 6 (0+1)) z56=true:=Go.Ev.a0O d4i d4h
theorem e1y:Go.Ev.a0p (a4z a5F) b3d a9d z56=true:=Go.Ev.a0O d8A d7z
theorem e4h:Go.Ev.a0p (a4z a5F) e3O a9d []=true:=Go.Ev.b1Z e1y e1x
theorem d8B: @Go.Ev.Auto (Go.Ev.b2i Try.prog d9m) Try.prog (Go.Ev.b6m Try.prog d9m 20000) Try.f83 d1k [0] 1000 ccC (fun _=>none):=Go.Ev.a7l c9f mixed (by kernel_rfl) ⟨e4i,e4h,trivial⟩ ⟨(fun _ _=>rfl),c8L,trivial⟩
end
end Go.Proofs.Ytmmmknhdigapkaa.plq
