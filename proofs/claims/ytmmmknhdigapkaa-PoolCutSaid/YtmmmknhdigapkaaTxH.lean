/-
  Chapter 06: trees of what lays a pool; contracts.
-/
import Derived.Test.YtmmmknhdigapkaaTxG
import Derived.Test.YtmmmknhdigapkaaEvTr
import Derived.Test.YtmmmknhdigapkaaTxA
import Derived.Test.YtmmmknhdigapkaaTxD
namespace Go.Proofs.Ytmmmknhdigapkaa.poolS
open Go.Ev Go.RowKit
set_option linter.unusedVariables false
noncomputable section
def b4m:List Ty:=[tI,tI,tI]
theorem c1o:b4m.length=3:=rfl
def b6D:List Ty:=[tI]
theorem c9J:b6D.length=1:=rfl
def a5B:List Ty:=[tI,tI,tI,tI,tI,tI,tI,.b,(.l b6D),(.l b4m),tI,tI,tI]
theorem c1n:a5B.length=13:=rfl
def a1T:List Ty:=[.s,tI,tI,tI,tI,tI,tI,tI,tI,tI,(.l a5B)]
theorem b4l:a1T.length=11:=rfl
def e3z:List Ty:=[(.l a1T),(.w a1T),.b,tI]
def e3y:List Ty:=[(.l a1T),.s,tI,tI,tI,tI,tI,tI,tI,tI,tI,(.l a5B),(.w a5B),.b,tI,tI,(.w a1T),.b]
def e3x:List Ty:=[.s,(.l b6D),tI,tI]
def e3w:List Ty:=[.s,(.l b4m),tI,tI,tI,tI,tI,tI,tI,tI,(.l b6D),tI,tI,tI,.b,tI]
def e0p:List Ty:=[.s,(.l a1T),tI,tI]
def e0o:List Ty:=[.s,(.l a1T),tI,(.l a5B),tI,tI,tI]
def e0n:List Ty:=[(.l a1T),.s,tI]
def e0m:List Ty:=[(.l a1T),.s,.s,tI,tI,tI,tI,tI,tI,tI,tI,tI,(.l a5B),tI,tI]
def e1r:Vt:=(.goto 0 [none] [(gY 0),(.ow (.slice none 0 0) none []),(.v (.bool true)),(.v (.int .i64 (0)))])
def d7j:Sig:=⟨e3z,[(0,(.d 0)),(3,(.own 0 1 2)),(4,(.d 3))],[(.lst 1 2 a1T (some 40) 42)]⟩
def d4W:Vt:=(.fb 2
(.len (.sym 0)
(.lss (vI 3) (vI 4)
(.lss (vI 3) (.int .i64 (42))
(.elt (.sym 0) (vI 3) a1T
(.slen (.sym 5)
(.mn .i64 (vI 16) (.int .i64 (40))
(.sub (.sym 5) (.int .i64 (0)) (vI 17)
(.goto 1 [(some 1),none,none] [(gY 0),(gY 18),(gI 6),(gI 7),(gI 8),(gI 9),(gI 10),(gI 11),(gI 12),(gI 13),(gI 14),(gY 15),(.ow (.slice none 0 0) none []),(.v (.bool true)),(.v (.int .i64 (0))),(gI 3),(.ow (.slice none 0 0) none []),(.v (.bool true))])))))
(.ret [(.v (.slice none 0 0))]))
(.ret [(.v (.slice none 0 0))])))
(.len (.sym 0)
(.lss (vI 3) (vI 4)
(.lss (vI 3) (.int .i64 (42))
(.elt (.sym 0) (vI 3) a1T
(.slen (.sym 5)
(.mn .i64 (vI 16) (.int .i64 (40))
(.sub (.sym 5) (.int .i64 (0)) (vI 17)
(.goto 1 [(some 1),none,(some 0)] [(gY 0),(gY 18),(gI 6),(gI 7),(gI 8),(gI 9),(gI 10),(gI 11),(gI 12),(gI 13),(gI 14),(gY 15),(.ow (.slice none 0 0) none []),(.v (.bool true)),(.v (.int .i64 (0))),(gI 3),(.ow (.lsl 0 1 0) (some 1) []),(.v (.bool false))])))))
(.ret [(.app (.lsl 0 1 0) 1 [])]))
(.ret [(.app (.lsl 0 1 0) 1 [])]))))
def d7i:Sig:=⟨e3y,[(0,(.d 0)),(3,(.own 2 16 17)),(4,(.d 15)),(5,(.p 0 0)),(6,(.own 1 12 13)),(7,(.d 14))],[(.cells [(.d 1),(.d 2),(.d 3),(.d 4),(.d 5),(.d 6),(.d 7),(.d 8),(.d 9),(.d 10),(.d 11)] none 0 (some 40)),(.lst 12 13 a5B (some 46) 42),(.lst 16 17 a1T (some 40) 42)]⟩
def d4V:Vt:=(.fb 13
(.fb 17
(.len (.sym 11)
(.lss (vI 14) (vI 18)
(.lss (vI 14) (.int .i64 (5))
(.elt (.sym 11) (vI 14) a5B
(.len (.sym 27)
(.mn .i64 (vI 32) (.int .i64 (5))
(.cut [tI] (.sym 27) none (some (vI 33))
(.len (.sym 28)
(.mn .i64 (vI 35) (.int .i64 (35))
(.cut b4m (.sym 28) none (some (vI 36))
(.bin .add .i64 (vI 14) (.int .i64 (1))
(.goto 1 [(some 0),(some 5),none] [(gY 0),(gY 1),(gI 2),(gI 3),(gI 4),(gI 5),(gI 6),(gI 7),(gI 8),(gI 9),(gI 10),(gY 11),(.ow (.slice (some ⟨(.loc 5),0⟩) 1 1) none [[(gI 19),(gI 20),(gI 21),(gI 22),(gI 23),(gI 24),(gI 25),(gY 26),(gY 34),(gY 37),(gI 29),(gI 30),(gI 31)]]),(.v (.bool false)),(gI 38),(gI 15),(.ow (.slice none 0 0) none []),(.v (.bool true))])))))))))
(.bin .add .i64 (vI 15) (.int .i64 (1))
(.goto 0 [(some 4)] [(gY 0),(.ow (.slice (some ⟨(.loc 4),0⟩) 1 1) none [[(gY 1),(gI 2),(gI 3),(gI 4),(gI 5),(gI 6),(gI 7),(gI 8),(gI 9),(gI 10),(.v (.slice none 0 0))]]),(.v (.bool false)),(gI 19)])))
(.bin .add .i64 (vI 15) (.int .i64 (1))
(.goto 0 [(some 4)] [(gY 0),(.ow (.slice (some ⟨(.loc 4),0⟩) 1 1) none [[(gY 1),(gI 2),(gI 3),(gI 4),(gI 5),(gI 6),(gI 7),(gI 8),(gI 9),(gI 10),(.v (.slice none 0 0))]]),(.v (.bool false)),(gI 19)]))))
(.len (.sym 11)
(.lss (vI 14) (vI 18)
(.lss (vI 14) (.int .i64 (5))
(.elt (.sym 11) (vI 14) a5B
(.len (.sym 27)
(.mn .i64 (vI 32) (.int .i64 (5))
(.cut [tI] (.sym 27) none (some (vI 33))
(.len (.sym 28)
(.mn .i64 (vI 35) (.int .i64 (35))
(.cut b4m (.sym 28) none (some (vI 36))
(.bin .add .i64 (vI 14) (.int .i64 (1))
(.goto 1 [(some 0),(some 5),(some 2)] [(gY 0),(gY 1),(gI 2),(gI 3),(gI 4),(gI 5),(gI 6),(gI 7),(gI 8),(gI 9),(gI 10),(gY 11),(.ow (.slice (some ⟨(.loc 5),0⟩) 1 1) none [[(gI 19),(gI 20),(gI 21),(gI 22),(gI 23),(gI 24),(gI 25),(gY 26),(gY 34),(gY 37),(gI 29),(gI 30),(gI 31)]]),(.v (.bool false)),(gI 38),(gI 15),(.ow (.lsl 2 16 0) (some 16) []),(.v (.bool false))])))))))))
(.bin .add .i64 (vI 15) (.int .i64 (1))
(.goto 0 [(some 4)] [(gY 0),(.ow (.lsl 4 16 1) (some 16) [[(gY 1),(gI 2),(gI 3),(gI 4),(gI 5),(gI 6),(gI 7),(gI 8),(gI 9),(gI 10),(.v (.slice none 0 0))]]),(.v (.bool false)),(gI 19)])))
(.bin .add .i64 (vI 15) (.int .i64 (1))
(.goto 0 [(some 4)] [(gY 0),(.ow (.lsl 4 16 1) (some 16) [[(gY 1),(gI 2),(gI 3),(gI 4),(gI 5),(gI 6),(gI 7),(gI 8),(gI 9),(gI 10),(.v (.slice none 0 0))]]),(.v (.bool false)),(gI 19)])))))
(.fb 17
(.len (.sym 11)
(.lss (vI 14) (vI 18)
(.lss (vI 14) (.int .i64 (5))
(.elt (.sym 11) (vI 14) a5B
(.len (.sym 27)
(.mn .i64 (vI 32) (.int .i64 (5))
(.cut [tI] (.sym 27) none (some (vI 33))
(.len (.sym 28)
(.mn .i64 (vI 35) (.int .i64 (35))
(.cut b4m (.sym 28) none (some (vI 36))
(.bin .add .i64 (vI 14) (.int .i64 (1))
(.goto 1 [(some 0),(some 5),none] [(gY 0),(gY 1),(gI 2),(gI 3),(gI 4),(gI 5),(gI 6),(gI 7),(gI 8),(gI 9),(gI 10),(gY 11),(.ow (.lsl 5 12 1) (some 12) [[(gI 19),(gI 20),(gI 21),(gI 22),(gI 23),(gI 24),(gI 25),(gY 26),(gY 34),(gY 37),(gI 29),(gI 30),(gI 31)]]),(.v (.bool false)),(gI 38),(gI 15),(.ow (.slice none 0 0) none []),(.v (.bool true))])))))))))
(.bin .add .i64 (vI 15) (.int .i64 (1))
(.goto 0 [(some 4)] [(gY 0),(.ow (.slice (some ⟨(.loc 4),0⟩) 1 1) none [[(gY 1),(gI 2),(gI 3),(gI 4),(gI 5),(gI 6),(gI 7),(gI 8),(gI 9),(gI 10),(.app (.lsl 1 12 0) 12 [])]]),(.v (.bool false)),(gI 19)])))
(.bin .add .i64 (vI 15) (.int .i64 (1))
(.goto 0 [(some 4)] [(gY 0),(.ow (.slice (some ⟨(.loc 4),0⟩) 1 1) none [[(gY 1),(gI 2),(gI 3),(gI 4),(gI 5),(gI 6),(gI 7),(gI 8),(gI 9),(gI 10),(.app (.lsl 1 12 0) 12 [])]]),(.v (.bool false)),(gI 19)]))))
(.len (.sym 11)
(.lss (vI 14) (vI 18)
(.lss (vI 14) (.int .i64 (5))
(.elt (.sym 11) (vI 14) a5B
(.len (.sym 27)
(.mn .i64 (vI 32) (.int .i64 (5))
(.cut [tI] (.sym 27) none (some (vI 33))
(.len (.sym 28)
(.mn .i64 (vI 35) (.int .i64 (35))
(.cut b4m (.sym 28) none (some (vI 36))
(.bin .add .i64 (vI 14) (.int .i64 (1))
(.goto 1 [(some 0),(some 5),(some 2)] [(gY 0),(gY 1),(gI 2),(gI 3),(gI 4),(gI 5),(gI 6),(gI 7),(gI 8),(gI 9),(gI 10),(gY 11),(.ow (.lsl 5 12 1) (some 12) [[(gI 19),(gI 20),(gI 21),(gI 22),(gI 23),(gI 24),(gI 25),(gY 26),(gY 34),(gY 37),(gI 29),(gI 30),(gI 31)]]),(.v (.bool false)),(gI 38),(gI 15),(.ow (.lsl 2 16 0) (some 16) []),(.v (.bool false))])))))))))
(.bin .add .i64 (vI 15) (.int .i64 (1))
(.goto 0 [(some 4)] [(gY 0),(.ow (.lsl 4 16 1) (some 16) [[(gY 1),(gI 2),(gI 3),(gI 4),(gI 5),(gI 6),(gI 7),(gI 8),(gI 9),(gI 10),(.app (.lsl 1 12 0) 12 [])]]),(.v (.bool false)),(gI 19)])))
(.bin .add .i64 (vI 15) (.int .i64 (1))
(.goto 0 [(some 4)] [(gY 0),(.ow (.lsl 4 16 1) (some 16) [[(gY 1),(gI 2),(gI 3),(gI 4),(gI 5),(gI 6),(gI 7),(gI 8),(gI 9),(gI 10),(.app (.lsl 1 12 0) 12 [])]]),(.v (.bool false)),(gI 19)]))))))
def cu:FnV:=⟨[(.d (.l a1T))],[(.d (.l a1T))],[0,1],[],e1r,[(0,d7j,d4W),(1,d7i,d4V)],[]⟩
def e2s:Vt:=(.len (.sym 1)
(.goto 0 [] [(gY 0),(gY 1),(gI 2),(.v (.int .i64 (0)))]))
def d6u:Sig:=⟨e3x,[(0,(.d 0)),(7,(.d 1)),(8,(.d 2)),(9,(.d 3))],[]⟩
def d6t:Vt:=(.lss (vI 3) (vI 2)
(.elt (.sym 1) (vI 3) [tI]
(.conv .u64 (vI 4)
(.call 0 [(.sym 0),(.sint .u64 5)]
(.bin .add .i64 (vI 3) (.int .i64 (1))
(.goto 0 [] [(gY 6),(gY 1),(gI 2),(gI 7)])))))
(.ret [(gY 0)]))
def nu:FnV:=⟨[(.d .s),(.d (.l b6D))],[(.d .s)],[0],[],e2s,[(0,d6u,d6t)],[]⟩
def e0y:Vt:=(.fb 8
(.len (.sym 9)
(.conv .u64 (vI 1)
(.call 0 [(.sym 0),(.sint .u64 15)]
(.conv .u64 (vI 2)
(.call 0 [(.sym 16),(.sint .u64 17)]
(.conv .u64 (vI 3)
(.call 0 [(.sym 18),(.sint .u64 19)]
(.conv .u64 (vI 4)
(.call 0 [(.sym 20),(.sint .u64 21)]
(.conv .u64 (vI 5)
(.call 0 [(.sym 22),(.sint .u64 23)]
(.conv .u64 (vI 6)
(.call 0 [(.sym 24),(.sint .u64 25)]
(.conv .u64 (vI 7)
(.call 0 [(.sym 26),(.sint .u64 27)]
(.call 0 [(.sym 28),(.int .u64 (1))]
(.conv .u64 (vI 14)
(.call 0 [(.sym 29),(.sint .u64 30)]
(.len (.sym 10)
(.call 4 [(.sym 31),(.sym 9)]
(.conv .u64 (vI 32)
(.call 0 [(.sym 33),(.sint .u64 34)]
(.goto 0 [(some 0)] [(gY 35),(gY 10),(gI 32),(gI 1),(gI 2),(gI 3),(gI 4),(gI 5),(gI 6),(gI 7),(gY 9),(gI 11),(gI 12),(gI 13),(.v (.bool true)),(.v (.int .i64 (0)))])))))))))))))))))))))))
(.len (.sym 9)
(.conv .u64 (vI 1)
(.call 0 [(.sym 0),(.sint .u64 15)]
(.conv .u64 (vI 2)
(.call 0 [(.sym 16),(.sint .u64 17)]
(.conv .u64 (vI 3)
(.call 0 [(.sym 18),(.sint .u64 19)]
(.conv .u64 (vI 4)
(.call 0 [(.sym 20),(.sint .u64 21)]
(.conv .u64 (vI 5)
(.call 0 [(.sym 22),(.sint .u64 23)]
(.conv .u64 (vI 6)
(.call 0 [(.sym 24),(.sint .u64 25)]
(.conv .u64 (vI 7)
(.call 0 [(.sym 26),(.sint .u64 27)]
(.call 0 [(.sym 28),(.int .u64 (0))]
(.conv .u64 (vI 14)
(.call 0 [(.sym 29),(.sint .u64 30)]
(.len (.sym 10)
(.call 4 [(.sym 31),(.sym 9)]
(.conv .u64 (vI 32)
(.call 0 [(.sym 33),(.sint .u64 34)]
(.goto 0 [(some 0)] [(gY 35),(gY 10),(gI 32),(gI 1),(gI 2),(gI 3),(gI 4),(gI 5),(gI 6),(gI 7),(gY 9),(gI 11),(gI 12),(gI 13),(.v (.bool false)),(.v (.int .i64 (0)))]))))))))))))))))))))))))
def d3H:Sig:=⟨e3w,[(0,(.d 0)),(3,(.p 0 0)),(45,(.d 1)),(46,(.d 2)),(47,(.d 15))],[(.cells [(.d 3),(.d 4),(.d 5),(.d 6),(.d 7),(.d 8),(.d 9),(.d 14),(.d 10),(.d 1),(.d 11),(.d 12),(.d 13)] none 0 none)]⟩
def d3G:Vt:=(.lss (vI 15) (vI 2)
(.elt (.sym 1) (vI 15) b4m
(.conv .u64 (vI 16)
(.call 0 [(.sym 0),(.sint .u64 19)]
(.call 2 [(.sym 20),(vI 17)]
(.call 2 [(.sym 21),(vI 18)]
(.bin .add .i64 (vI 15) (.int .i64 (1))
(.goto 0 [(some 0)] [(gY 22),(gY 1),(gI 2),(gI 3),(gI 4),(gI 5),(gI 6),(gI 7),(gI 8),(gI 9),(gY 10),(gI 11),(gI 12),(gI 13),(gY 14),(gI 23)])))))))
(.conv .u64 (vI 11)
(.call 0 [(.sym 0),(.sint .u64 16)]
(.call 2 [(.sym 17),(vI 12)]
(.call 2 [(.sym 18),(vI 13)]
(.ret [(gY 19)]))))))
def pa:FnV:=⟨[(.d .s),(.st a5B)],[(.d .s)],[0],[],e0y,[(0,d3H,d3G)],[]⟩
def e1n:Vt:=(.call 8 [(.sym 0)]
(.eql (vI 1) (.int .i64 (0))
(.len (.sym 0)
(.conv .u64 (vI 2)
(.call 0 [(.string ⟨#[]⟩),(.sint .u64 3)]
(.goto 0 [] [(gY 4),(gY 0),(gI 2),(.v (.int .i64 (0)))]))))
(.ret [(.v (.string ⟨#[]⟩)),(gI 1)])))
def d7e:Sig:=⟨e0p,[(5,(.d 0)),(19,(.d 1)),(20,(.d 2)),(21,(.d 3))],[]⟩
def d4N:Vt:=(.lss (vI 3) (vI 2)
(.elt (.sym 1) (vI 3) a1T
(.slen (.sym 4)
(.conv .u64 (vI 15)
(.call 0 [(.sym 0),(.sint .u64 16)]
(.cat (.sym 17) (.sym 4)
(.len (.sym 14)
(.conv .u64 (vI 5)
(.call 0 [(.sym 18),(.sint .u64 20)]
(.conv .u64 (vI 6)
(.call 0 [(.sym 21),(.sint .u64 22)]
(.conv .u64 (vI 7)
(.call 0 [(.sym 23),(.sint .u64 24)]
(.conv .u64 (vI 8)
(.call 0 [(.sym 25),(.sint .u64 26)]
(.conv .u64 (vI 9)
(.call 0 [(.sym 27),(.sint .u64 28)]
(.conv .u64 (vI 10)
(.call 0 [(.sym 29),(.sint .u64 30)]
(.conv .u64 (vI 11)
(.call 0 [(.sym 31),(.sint .u64 32)]
(.conv .u64 (vI 12)
(.call 0 [(.sym 33),(.sint .u64 34)]
(.conv .u64 (vI 13)
(.call 0 [(.sym 35),(.sint .u64 36)]
(.conv .u64 (vI 19)
(.call 0 [(.sym 37),(.sint .u64 38)]
(.goto 1 [] [(gY 39),(gY 1),(gI 2),(gY 14),(gI 19),(.v (.int .i64 (0))),(gI 3)])))))))))))))))))))))))))))
(.ret [(gY 0),(.v (.int .i64 (0)))]))
def d7d:Sig:=⟨e0o,[(5,(.d 0)),(19,(.d 1)),(20,(.d 2)),(21,(.d 6)),(58,(.d 3)),(59,(.d 4)),(60,(.d 5))],[]⟩
def d4M:Vt:=(.lss (vI 5) (vI 4)
(.elt (.sym 3) (vI 5) a5B
(.call 6 [(.sym 0),(vI 7),(vI 8),(vI 9),(vI 10),(vI 11),(vI 12),(vI 13),(.sym 14),(.sym 15),(.sym 16),(vI 17),(vI 18),(vI 19)]
(.bin .add .i64 (vI 5) (.int .i64 (1))
(.goto 1 [] [(gY 20),(gY 1),(gI 2),(gY 3),(gI 4),(gI 21),(gI 6)]))))
(.bin .add .i64 (vI 6) (.int .i64 (1))
(.goto 0 [] [(gY 0),(gY 1),(gI 2),(gI 7)])))
def en:FnV:=⟨[(.d (.l a1T))],[(.d .s),(.d tI)],[0,1],[],e1n,[(0,d7e,d4N),(1,d7d,d4M)],[]⟩
def e3v:Vt:=(.call 9 [(.sym 0)]
(.eql (vI 1) (.int .i64 (0))
(.len (.sym 0)
(.conv .u64 (vI 2)
(.call 1 [(.string ⟨#[]⟩),(.sint .u64 3)]
(.goto 0 [] [(gY 0),(gY 4),(.v (.int .i64 (0)))]))))
(.ret [(.v (.string ⟨#[]⟩)),(gI 1)])))
def e0l:Sig:=⟨e0n,[(0,(.d 0)),(5,(.d 1)),(6,(.d 2))],[]⟩
def e0j:Vt:=(.len (.sym 0)
(.lss (vI 2) (vI 3)
(.elt (.sym 0) (vI 2) a1T
(.slen (.sym 4)
(.conv .u64 (vI 15)
(.call 1 [(.sym 1),(.sint .u64 16)]
(.cat (.sym 17) (.sym 4)
(.len (.sym 14)
(.conv .u64 (vI 5)
(.call 1 [(.sym 18),(.sint .u64 20)]
(.conv .u64 (vI 6)
(.call 1 [(.sym 21),(.sint .u64 22)]
(.conv .u64 (vI 7)
(.call 1 [(.sym 23),(.sint .u64 24)]
(.conv .u64 (vI 8)
(.call 1 [(.sym 25),(.sint .u64 26)]
(.conv .u64 (vI 9)
(.call 1 [(.sym 27),(.sint .u64 28)]
(.conv .u64 (vI 10)
(.call 1 [(.sym 29),(.sint .u64 30)]
(.conv .u64 (vI 11)
(.call 1 [(.sym 31),(.sint .u64 32)]
(.conv .u64 (vI 12)
(.call 1 [(.sym 33),(.sint .u64 34)]
(.conv .u64 (vI 13)
(.call 1 [(.sym 35),(.sint .u64 36)]
(.conv .u64 (vI 19)
(.call 1 [(.sym 37),(.sint .u64 38)]
(.goto 1 [(some 0)] [(gY 0),(gY 39),(gY 4),(gI 5),(gI 6),(gI 7),(gI 8),(gI 9),(gI 10),(gI 11),(gI 12),(gI 13),(gY 14),(.v (.int .i64 (0))),(gI 2)])))))))))))))))))))))))))))
(.ret [(gY 1),(.v (.int .i64 (0)))])))
def e0k:Sig:=⟨e0m,[(0,(.d 0)),(5,(.d 1)),(6,(.d 14)),(7,(.p 0 0)),(8,(.d 13))],[(.cells [(.d 2),(.d 3),(.d 4),(.d 5),(.d 6),(.d 7),(.d 8),(.d 9),(.d 10),(.d 11),(.d 12)] none 0 (some 40))]⟩
def e0i:Vt:=(.len (.sym 12)
(.lss (vI 13) (vI 15)
(.elt (.sym 12) (vI 13) a5B
(.call 7 [(.sym 1),(vI 16),(vI 17),(vI 18),(vI 19),(vI 20),(vI 21),(vI 22),(.sym 23),(.sym 24),(.sym 25),(vI 26),(vI 27),(vI 28)]
(.bin .add .i64 (vI 13) (.int .i64 (1))
(.goto 1 [(some 0)] [(gY 0),(gY 29),(gY 2),(gI 3),(gI 4),(gI 5),(gI 6),(gI 7),(gI 8),(gI 9),(gI 10),(gI 11),(gY 12),(gI 30),(gI 14)]))))
(.bin .add .i64 (vI 14) (.int .i64 (1))
(.goto 0 [] [(gY 0),(gY 1),(gI 16)]))))
def re:FnV:=⟨[(.d (.l a1T))],[(.d .s),(.d tI)],[0,1],[],e3v,[(0,e0l,e0j),(1,e0k,e0i)],[]⟩
def pn(s:ByteArray)(n:Int):ByteArray:=s++c0O (IntKind.u64.wrap n)
def pz(s:ByteArray)(n:Int):ByteArray:=s++c0O (zig n)
def a5D(s:ByteArray)(es:List (List G)):ByteArray:=es.foldl (fun s x=>pn s (x.getD 0 .d).int) s
def a7i(s:ByteArray)(es:List (List G)):ByteArray:=es.foldl (fun s x=>pz (pz (pn s (x.getD 0 .d).int) (x.getD 1 .d).int) (x.getD 2 .d).int) s
def c3c(b:Bool):Int:=if b=true then 1 else 0
def abH(s:ByteArray)(g:List G):ByteArray:=
 pn (a5D (pn (pn (pn (pn (pn (pn (pn (pn (pn s (g.getD 0 .d).int) (g.getD 1 .d).int) (g.getD 2 .d).int) (g.getD 3 .d).int) (g.getD 4 .d).int) (g.getD 5 .d).int) (g.getD 6 .d).int) (c3c (g.getD 7 .d).bool)) (g.getD 8 .d).es.length) (g.getD 8 .d).es) (g.getD 9 .d).es.length
def abB(s:ByteArray)(g:List G):ByteArray:=
 pz (pz (pn (a7i (abH s g) (g.getD 9 .d).es) (g.getD 10 .d).int) (g.getD 11 .d).int) (g.getD 12 .d).int
def b8y(f:FuncId):Ct:=⟨f,[.d .s,.d (.i .u64)],[.d .s],fun gs=>(gs.getD 0 .d).str.size≤1099511627776,fun gs=>[.s ((gs.getD 0 .d).str++c0O (gs.getD 1 .d).int)]⟩
def b9h(f:FuncId):Ct:=⟨f,[.d .s,.d (.i .i64)],[.d .s],fun gs=>(gs.getD 0 .d).str.size≤1099511627776,fun gs=>[.s (pz (gs.getD 0 .d).str (gs.getD 1 .d).int)]⟩
def a7B(f:FuncId):Ct:=⟨f,[.d .s,.d (.l b6D)],[.d .s],fun gs=>(gs.getD 0 .d).str.size+9*(gs.getD 1 .d).es.length≤1099511627776,fun gs=>[.s (a5D (gs.getD 0 .d).str (gs.getD 1 .d).es)]⟩
def d1s(g:List G):Nat:=9*(g.getD 8 .d).es.length+27*(g.getD 9 .d).es.length+117
def cAb(f:FuncId):Ct:=⟨f,[.d .s,.st a5B],[.d .s],fun gs=>(gs.getD 0 .d).str.size+d1s gs.tail≤1099511627776,fun gs=>[.s (abB (gs.getD 0 .d).str gs.tail)]⟩
def cNo:Ct:=⟨0,[],[],fun _=>False,fun _=>[]⟩
theorem b0g:CtOK Try.prog cNo:=⟨rfl,fun gs ht hp=>hp.elim,fun w gs ht hm hp=>hp.elim⟩
def C4:List Ct:=[b8y 35,cNo,b9h 54,cNo]
def C6:List Ct:=[b8y 35,cNo,b9h 54,cNo,a7B 17,cNo]
theorem hng:a6U Try.prog:=b5C plq.c9f
theorem e1L:b5t Try.prog (Cs C4) (Ds []) Try.f17 nu=true:=by kernel_rfl
theorem e0x:b5t Try.prog (Cs C6) (Ds []) Try.f19 pa=true:=by kernel_rfl
theorem e1q:b5t Try.prog (Cs []) (Ds []) Try.f7 cu=true:=by kernel_rfl
theorem sz0{s:ByteArray}{B:Nat}(h:s.size+0≤B):s.size≤B:=h
theorem szn{s:ByteArray}{x:Int}{k B:Nat}(h:s.size+(k+9)≤B):(s++c0O x).size+k≤B:=by have:=(b7V x).2;rw[ByteArray.size_append];omega
theorem b9s{s:ByteArray}{x:Int}{k B:Nat}(h:s.size+(k+9)≤B):(pn s x).size+k≤B:=szn h
theorem b9d{s:ByteArray}{x:Int}{k B:Nat}(h:s.size+(k+9)≤B):(pz s x).size+k≤B:=szn h
theorem a4D: ∀{es:List (List G)} {s:ByteArray} {k B:Nat},s.size+(k+9*es.length)≤B→(a5D s es).size+k≤B
 | [],s,k,B,h=>by simpa[a5D]using h
 |x::l,s,k,B,h=>by show(a5D (pn s _) l).size+k≤B;refine a4D (b9s ?_);simp only[List.length_cons]at h;omega
theorem a3i: ∀{es:List (List G)} {s:ByteArray} {k B:Nat},s.size+(k+27*es.length)≤B→(a7i s es).size+k≤B
 | [],s,k,B,h=>by simpa[a7i]using h
 |x::l,s,k,B,h=>by show(a7i (pz (pz (pn s _) _) _) l).size+k≤B;refine a3i (b9d (b9d (b9s ?_)));simp only[List.length_cons]at h;omega
theorem d6S{s:ByteArray}{g:List G}{k B:Nat}(h:s.size+(k+(9*(g.getD 8 .d).es.length+90))≤B):(abH s g).size+k≤B:=by
 unfold abH
 repeat (first|with_reducible refine b9s ?_|with_reducible refine b9d ?_|with_reducible refine szn ?_|with_reducible refine a4D ?_|with_reducible refine a3i ?_)
 omega
theorem e2o{s:ByteArray}{g:List G}{k B:Nat}(h:s.size+(k+d1s g)≤B):(abB s g).size+k≤B:=by unfold abB;unfold d1s at h;refine b9d (b9d (b9s (a3i (d6S ?_))));omega
theorem e1K{f:FuncId}(h: ∀{x:Int} {s:ByteArray} {w:World},0≤x→x<18446744073709551616→s.size≤1099511627776→Calls Try.prog f #[.string s,.int .u64 x] w fun e w'=>e= .returned (.string (s++c0O x))∧Below w.heap.size w w'):CtOK Try.prog (b8y f):=by
 refine⟨rfl,fun gs ht hp=> ?_,fun w gs ht _ hp=> ?_⟩
 ·obtain⟨g0,l,rfl,t0,ht⟩:=tyC ht;obtain⟨s,rfl,hs⟩:=tyS t0
  have:(s++c0O ((G.s s::l).getD 1 .d).int).size≤9223372036854775807:=by
   have hp':s.size≤1099511627776:=hp
   ((try (with_reducible refine sz0 ?_));repeat (first|with_reducible refine b9s ?_|with_reducible refine b9d ?_|with_reducible refine szn ?_|with_reducible refine a4D ?_|with_reducible refine a3i ?_))
   omega
  exact⟨by simp only[TyOK];exact Int.ofNat_le.2 this,trivial⟩
 ·obtain⟨g0,l,rfl,t0,h1⟩:=tyC ht;obtain⟨s,rfl,hs⟩:=tyS t0;obtain⟨g1,l,rfl,t1,h2⟩:=tyC h1;obtain⟨n,rfl,n0,n1⟩:=e0X t1;obtain rfl:=tyN h2;exact h n0 (by omega) hp
theorem e1b{f:FuncId}(h: ∀{n:Int} {s:ByteArray} {w:World},-9223372036854775808≤n→n≤9223372036854775807→s.size≤1099511627776→Calls Try.prog f #[.string s,.int .i64 n] w fun e w'=>e= .returned (.string (s++c0O (zig n)))∧Below w.heap.size w w'):CtOK Try.prog (b9h f):=by
 refine⟨rfl,fun gs ht hp=> ?_,fun w gs ht _ hp=> ?_⟩
 ·obtain⟨g0,l,rfl,t0,ht⟩:=tyC ht;obtain⟨s,rfl,hs⟩:=tyS t0
  have:(pz s ((G.s s::l).getD 1 .d).int).size≤9223372036854775807:=by
   have hp':s.size≤1099511627776:=hp
   ((try (with_reducible refine sz0 ?_));repeat (first|with_reducible refine b9s ?_|with_reducible refine b9d ?_|with_reducible refine szn ?_|with_reducible refine a4D ?_|with_reducible refine a3i ?_))
   omega
  exact⟨by simp only[TyOK];exact Int.ofNat_le.2 this,trivial⟩
 ·obtain⟨g0,l,rfl,t0,h1⟩:=tyC ht;obtain⟨s,rfl,hs⟩:=tyS t0;obtain⟨g1,l,rfl,t1,h2⟩:=tyC h1;obtain⟨n,rfl,n0,n1⟩:=a0a t1;obtain rfl:=tyN h2;exact h n0 n1 hp
theorem a8X{β:Type}{f:β→List G→β}{s:β}{es:List (List G)}{i:Nat}(h:i<es.length):(es.take (i+1)).foldl f s=f ((es.take i).foldl f s) (es.getD i []):=by rw[List.take_add_one,List.foldl_append,List.getD_eq_getElem?_getD,List.getElem?_eq_getElem h];rfl
theorem d8q: ∀c∈C4,CtOK Try.prog c:=by
 intro c hc;simp only[C4,List.mem_cons,List.not_mem_nil,or_false]at hc;rcases hc with rfl|rfl|rfl|rfl
 ·exact e1K a9u
 ·exact b0g
 ·exact e1b b6r
 ·exact b0g
theorem c3q{w:World}(s:ByteArray)(v:Value)(es:List (List G))(hs:s.size+9*es.length≤1099511627776)(ht:TyL (a0F nu.psh) [.s s,.l v es])(hm:GML w [.s s,.l v es]):
  Calls Try.prog 17 ⟨a3e nu.psh [.s s,.l v es]⟩ w fun e w'=> ∃gs,gs= [.s (a5D s es)]∧e= .returned (a8w nu.rs gs)∧TyL (a0F nu.rs) gs∧GML (a0W w' []) gs∧Below w.heap.size w w':=by
 refine a3n hng plq.mixed (a8u d8q) (b9c (by intro c hc;cases hc)) Try.func17 e1L (fun t σ=> ∃i:Nat,i≤es.length∧σ= [.s (a5D s (es.take i)),.l v es,.i .i64 es.length,.i .i64 i]) (fun t σ=>es.length-(σ.getD 3 .d).int.toNat) (fun gs=>gs= [.s (a5D s es)]) ?_ ?_ ?_ ?_ ?_ (L:=[]) (by intro b hb;cases hb) ht (by simpa[a0W]using hm)
 ·simp only[nu,e2s,wp,a7q,allG1,gG,b2B,List.getD_cons_zero,List.getD_cons_succ,List.cons_append,List.nil_append,a0D,a2Y];exact⟨0,Nat.zero_le _,rfl⟩
 ·simp only[nu,List.mem_singleton];rintro q rfl σ hi q j jn ts et n h;simp[d6u]at h
 ·intro q hq;cases hq
 ·simp only[nu,List.mem_singleton];rintro q rfl σ hty ⟨i,hi,rfl⟩;simp only[d6t,C4,b8y,wp,a7q,allG1,gG,a5U,b2A,Cs,d5C,Option.some.injEq,exists_eq_left',List.getD_cons_zero,List.getD_cons_succ,List.cons_append,List.nil_append,a0D,a1R,a2Y,a2Q,a0z,List.length_cons,List.length_nil,List.map_cons,List.map_nil,a8V,Int.toNat_natCast,Nat.zero_add];have hl:(es.take i).length≤i:=List.length_take_le _ _;refine⟨fun hlt=>⟨by omega,hlt,by((try (with_reducible refine sz0 ?_));repeat (first|with_reducible refine b9s ?_|with_reducible refine b9d ?_|with_reducible refine szn ?_|with_reducible refine a4D ?_|with_reducible refine a3i ?_));omega,⟨i+1,by omega, ?_⟩, ?_⟩,fun hge=> ?_⟩
  ·have e:a5D s (es.take (i+1))=pn (a5D s (es.take i)) ((es.getD i []).getD 0 .d).int:=a8X (by omega);rw[a2i (by omega),e];rfl
  ·rw[a2i (by omega)];omega
  ·rw[List.take_of_length_le (by omega)]
 ·intro q hq;cases hq
theorem d3R:CtOK Try.prog (a7B 17):=by
 refine⟨rfl,fun gs ht hp=> ?_,fun w gs ht hm hp=> ?_⟩
 ·obtain⟨g0,l,rfl,t0,h1⟩:=tyC ht;obtain⟨s,rfl,hs⟩:=tyS t0
  have:(a5D s ((G.s s::l).getD 1 .d).es).size≤9223372036854775807:=by
   have hp':s.size+9*((G.s s::l).getD 1 .d).es.length≤1099511627776:=hp
   ((try (with_reducible refine sz0 ?_));repeat (first|with_reducible refine b9s ?_|with_reducible refine b9d ?_|with_reducible refine szn ?_|with_reducible refine a4D ?_|with_reducible refine a3i ?_))
   omega
  exact⟨by simp only[TyOK];exact Int.ofNat_le.2 this,trivial⟩
 ·have ht0:=ht;obtain⟨g0,l,rfl,t0,h1⟩:=tyC ht;obtain⟨s,rfl,hs⟩:=tyS t0;obtain⟨g1,l,rfl,t1,h2⟩:=tyC h1;obtain⟨v,es,rfl,hes,hel⟩:=b3l t1;obtain rfl:=tyN h2;refine(c3q s v es hp ht0 hm).mono ?_;rintro e w' ⟨gs,rfl,he,_,_,hb⟩;exact⟨he,hb⟩
theorem d8p: ∀c∈C6,CtOK Try.prog c:=by
 intro c hc;rw[show C6=C4++ [a7B 17,cNo]from rfl,List.mem_append]at hc;rcases hc with hc|hc
 ·exact d8q c hc
 ·simp only[List.mem_cons,List.not_mem_nil,or_false]at hc;rcases hc with rfl|rfl
  ·exact d3R
  ·exact b0g
def abG(s:ByteArray)(n0 n1 n2 n3 n4 n5 n6 n10 n11 n12:Int)(tap:Bool)(tv cv:Value)(tg code:List (List G)):List G:=
 [.s s,.i .i64 n0,.i .i64 n1,.i .i64 n2,.i .i64 n3,.i .i64 n4,.i .i64 n5,.i .i64 n6,.b tap,.l tv tg,.l cv code,.i .i64 n10,.i .i64 n11,.i .i64 n12]
theorem d8e{gs:List G}(ht:TyL (.s::a5B) gs): ∃s n0 n1 n2 n3 n4 n5 n6 n10 n11 n12 tap tv cv tg code,gs=abG s n0 n1 n2 n3 n4 n5 n6 n10 n11 n12 tap tv cv tg code:=by obtain⟨g0,l,rfl,t0,h0⟩:=tyC ht;obtain⟨s,rfl,_⟩:=tyS t0;obtain⟨g1,l,rfl,t1,h1⟩:=tyC h0;obtain⟨n0,rfl,_,_⟩:=a0a t1;obtain⟨g2,l,rfl,t2,h2⟩:=tyC h1;obtain⟨n1,rfl,_,_⟩:=a0a t2;obtain⟨g3,l,rfl,t3,h3⟩:=tyC h2;obtain⟨n2,rfl,_,_⟩:=a0a t3;obtain⟨g4,l,rfl,t4,h4⟩:=tyC h3;obtain⟨n3,rfl,_,_⟩:=a0a t4;obtain⟨g5,l,rfl,t5,h5⟩:=tyC h4;obtain⟨n4,rfl,_,_⟩:=a0a t5;obtain⟨g6,l,rfl,t6,h6⟩:=tyC h5;obtain⟨n5,rfl,_,_⟩:=a0a t6;obtain⟨g7,l,rfl,t7,h7⟩:=tyC h6;obtain⟨n6,rfl,_,_⟩:=a0a t7;obtain⟨g8,l,rfl,t8,h8⟩:=tyC h7;obtain⟨tap,rfl⟩:=tyB t8;obtain⟨g9,l,rfl,t9,h9⟩:=tyC h8;obtain⟨tv,tg,rfl,_,_⟩:=b3l t9;obtain⟨g10,l,rfl,t10,h10⟩:=tyC h9;obtain⟨cv,code,rfl,_,_⟩:=b3l t10;obtain⟨g11,l,rfl,t11,h11⟩:=tyC h10;obtain⟨n10,rfl,_,_⟩:=a0a t11;obtain⟨g12,l,rfl,t12,h12⟩:=tyC h11;obtain⟨n11,rfl,_,_⟩:=a0a t12;obtain⟨g13,l,rfl,t13,h13⟩:=tyC h12;obtain⟨n12,rfl,_,_⟩:=a0a t13;obtain rfl:=tyN h13;exact⟨s,n0,n1,n2,n3,n4,n5,n6,n10,n11,n12,tap,tv,cv,tg,code,rfl⟩
theorem b6C{w:World}(s:ByteArray)(n0 n1 n2 n3 n4 n5 n6 n10 n11 n12:Int)(tap:Bool)(tv cv:Value)(tg code:List (List G))(hs:s.size+(9*tg.length+27*code.length+117)≤1099511627776)(ht:TyL (a0F pa.psh) (abG s n0 n1 n2 n3 n4 n5 n6 n10 n11 n12 tap tv cv tg code))(hm:GML w (abG s n0 n1 n2 n3 n4 n5 n6 n10 n11 n12 tap tv cv tg code)):
  Calls Try.prog 19 ⟨a3e pa.psh (abG s n0 n1 n2 n3 n4 n5 n6 n10 n11 n12 tap tv cv tg code)⟩ w fun e w'=> ∃gs,gs= [.s (abB s (abG s n0 n1 n2 n3 n4 n5 n6 n10 n11 n12 tap tv cv tg code).tail)]∧e= .returned (a8w pa.rs gs)∧TyL (a0F pa.rs) gs∧GML (a0W w' []) gs∧Below w.heap.size w w':=by
 obtain⟨H,eH⟩: ∃H,H=abH s (abG s n0 n1 n2 n3 n4 n5 n6 n10 n11 n12 tap tv cv tg code).tail:=⟨_,rfl⟩
 have hH:H.size+27*code.length+27≤1099511627776:=by have:=d6S (s:=s) (g:=(abG s n0 n1 n2 n3 n4 n5 n6 n10 n11 n12 tap tv cv tg code).tail) (k:=27*code.length+27) (B:=1099511627776) (by simp only[abG,List.tail_cons,List.getD_cons_succ,List.getD_cons_zero,a6y];omega);rw[←eH]at this;omega
 refine a3n hng plq.mixed (a8u d8p) (b9c (by intro c hc;cases hc)) Try.func19 e0x (fun t σ=> ∃i:Nat,i≤code.length∧σ= [.s (a7i H (code.take i)),.l cv code,.i .i64 code.length,.i .i64 n0,.i .i64 n1,.i .i64 n2,.i .i64 n3,.i .i64 n4,.i .i64 n5,.i .i64 n6,.l tv tg,.i .i64 n10,.i .i64 n11,.i .i64 n12,.b tap,.i .i64 i]) (fun t σ=>code.length-(σ.getD 15 .d).int.toNat) (fun gs=>gs= [.s (abB s (abG s n0 n1 n2 n3 n4 n5 n6 n10 n11 n12 tap tv cv tg code).tail)]) ?_ ?_ ?_ ?_ ?_ (L:=[]) (by intro b hb;cases hb) ht (by simpa[a0W]using hm)
 ·have w1:IntKind.u64.wrap 1=1:=by rw[IntKind.wrap_u64];rfl
  have w0:IntKind.u64.wrap 0=0:=by rw[IntKind.wrap_u64];rfl
  show wp (Cs C6) e0y _ _;unfold e0y abG
  (with_reducible refine a3d ?_ ?_)
  all_goals
   simp only[List.getD_cons_zero,List.getD_cons_succ,a2w,List.tail_cons];intro hb;subst hb
   repeat (first
    |((with_reducible refine a3t ?_);simp only[gG,List.getD_cons_zero,List.getD_cons_succ,List.cons_append,List.nil_append,a0D])
    |((with_reducible refine a1Z ?_);simp only[gG,List.getD_cons_zero,List.getD_cons_succ,List.cons_append,List.nil_append,a2Y])
    |((with_reducible refine a3Q ?_ ?_);(focus (simp only[C6,b8y,a7B,b9h,gG,Cs,List.getD_cons_zero,List.getD_cons_succ,a0D,a1R,a6y,List.map_cons,List.map_nil];((try (with_reducible refine sz0 ?_));repeat (first|with_reducible refine b9s ?_|with_reducible refine b9d ?_|with_reducible refine szn ?_|with_reducible refine a4D ?_|with_reducible refine a3i ?_));omega));simp only[C6,b8y,a7B,b9h,gG,Cs,List.getD_cons_zero,List.getD_cons_succ,List.cons_append,List.nil_append,a0D,a1R,a6y,List.map_cons,List.map_nil]))
   (with_reducible refine a0C ?_)
   simp only[gG,a7q,allG1,b2B,List.getD_cons_zero,List.getD_cons_succ,a0D];refine⟨0,Nat.zero_le _, ?_⟩;rw[eH];simp only[abH,abG,pn,List.tail_cons,List.getD_cons_succ,List.getD_cons_zero,a0D,a2w,a6y,c3c,if_true,Bool.false_eq_true,if_false,w0,w1,List.take_zero,a7i,List.foldl_nil];rfl
 ·simp only[pa,List.mem_singleton];rintro q rfl σ hi q j jn ts et n h;exfalso;revert h;cases q with
  |zero=>simp[d3H]
  |succ q=>simp[d3H]
 ·intro q hq;cases hq
 ·simp only[pa,List.mem_singleton];rintro q rfl σ hty ⟨i,hi,rfl⟩;show wp (Cs C6) d3G _ _;unfold d3G;have hl:(code.take i).length≤i:=List.length_take_le _ _
  (with_reducible refine a0w ?_ ?_)
  ·simp only[gG,List.getD_cons_zero,List.getD_cons_succ,a0D,Int.toNat_natCast];intro hlt
   (with_reducible refine a3z ?_ ?_ ?_)
   ·simp only[gG,List.getD_cons_zero,List.getD_cons_succ,a0D];omega
   ·simp only[gG,List.getD_cons_zero,List.getD_cons_succ,a0D,a2Y];exact hlt
   simp only[c1o,gG,List.getD_cons_zero,List.getD_cons_succ,List.cons_append,List.nil_append,a0D,a2Q,a0z,a8V,a8U,Int.toNat_natCast,Nat.zero_add,Nat.reduceAdd]
   repeat (first
    |((with_reducible refine a3t ?_);simp only[gG,List.getD_cons_zero,List.getD_cons_succ,List.cons_append,List.nil_append,a0D])
    |((with_reducible refine a1Z ?_);simp only[gG,Cs,List.getD_cons_zero,List.getD_cons_succ,List.getD_nil,List.cons_append,List.nil_append,List.append_nil,a0D,a1R,a2w,a6y,b2b,a2Y,a2Q,a1b,a1v,a0z,List.length_cons,List.length_nil,List.map_cons,List.map_nil,a8V,a8U,List.tail_cons,Int.toNat_natCast,Nat.zero_add,Nat.reduceAdd,a0l])
    |((with_reducible refine a3Q ?_ ?_);(focus (simp only[C6,b8y,a7B,b9h,gG,Cs,List.getD_cons_zero,List.getD_cons_succ,a0D,a1R,List.map_cons,List.map_nil];((try (with_reducible refine sz0 ?_));repeat (first|with_reducible refine b9s ?_|with_reducible refine b9d ?_|with_reducible refine szn ?_|with_reducible refine a4D ?_|with_reducible refine a3i ?_));omega));simp only[C6,b8y,a7B,b9h,gG,Cs,List.getD_cons_zero,List.getD_cons_succ,List.cons_append,List.nil_append,a0D,a1R,List.map_cons,List.map_nil]))
   (with_reducible refine a1F ?_)
   simp only[gG,List.getD_cons_zero,List.getD_cons_succ,List.cons_append,List.nil_append,a0D]
   (with_reducible refine a0C ?_)
   simp only[gG,a7q,allG1,a5U,List.getD_cons_zero,List.getD_cons_succ,a0D];refine⟨⟨i+1,by omega, ?_⟩, ?_⟩
   ·have e:a7i H (code.take (i+1))=pz (pz (pn (a7i H (code.take i)) ((code.getD i []).getD 0 .d).int) ((code.getD i []).getD 1 .d).int) ((code.getD i []).getD 2 .d).int:=a8X (by omega);rw[a2i (by omega),e];rfl
   ·rw[a2i (by omega)];omega
  ·simp only[gG,List.getD_cons_zero,List.getD_cons_succ,a0D,Int.toNat_natCast];intro hge
   repeat (first
    |((with_reducible refine a3t ?_);simp only[gG,List.getD_cons_zero,List.getD_cons_succ,List.cons_append,List.nil_append,a0D])
    |((with_reducible refine a1Z ?_);simp only[gG,Cs,List.getD_cons_zero,List.getD_cons_succ,List.getD_nil,List.cons_append,List.nil_append,List.append_nil,a0D,a1R,a2w,a6y,b2b,a2Y,a2Q,a1b,a1v,a0z,List.length_cons,List.length_nil,List.map_cons,List.map_nil,a8V,a8U,List.tail_cons,Int.toNat_natCast,Nat.zero_add,Nat.reduceAdd,a0l])
    |((with_reducible refine a3Q ?_ ?_);(focus (simp only[C6,b8y,a7B,b9h,gG,Cs,List.getD_cons_zero,List.getD_cons_succ,a0D,a1R,List.map_cons,List.map_nil];((try (with_reducible refine sz0 ?_));repeat (first|with_reducible refine b9s ?_|with_reducible refine b9d ?_|with_reducible refine szn ?_|with_reducible refine a4D ?_|with_reducible refine a3i ?_));omega));simp only[C6,b8y,a7B,b9h,gG,Cs,List.getD_cons_zero,List.getD_cons_succ,List.cons_append,List.nil_append,a0D,a1R,List.map_cons,List.map_nil]))
   (with_reducible refine a0c ?_)
   simp only[gG,a7q,allG1,b2A,List.getD_cons_zero,List.getD_cons_succ];rw[List.take_of_length_le (by omega)];unfold abB;rw[←eH];rfl
 ·intro q hq;cases hq
theorem c4h:CtOK Try.prog (cAb 19):=by
 refine⟨rfl,fun gs ht hp=> ?_,fun w gs ht hm hp=> ?_⟩
 ·obtain⟨g0,l,rfl,t0,h1⟩:=tyC ht;obtain⟨s,rfl,hs⟩:=tyS t0;have hp':s.size+d1s l≤1099511627776:=hp;have:=e2o (s:=s) (g:=l) (k:=0) (B:=1099511627776) (by omega);have h2:(abB s l).size≤9223372036854775807:=by omega
  exact⟨by simp only[TyOK];exact Int.ofNat_le.2 h2,trivial⟩
 ·have ht0:=ht;obtain⟨s,n0,n1,n2,n3,n4,n5,n6,n10,n11,n12,tap,tv,cv,tg,code,rfl⟩:=d8e ht;refine(b6C s n0 n1 n2 n3 n4 n5 n6 n10 n11 n12 tap tv cv tg code hp ht0 hm).mono ?_;rintro e w' ⟨gs,rfl,he,_,_,hb⟩;exact⟨he,hb⟩
end
end Go.Proofs.Ytmmmknhdigapkaa.poolS
namespace Go.Proofs.Ytmmmknhdigapkaa.poolS
open Go.Ev Go.RowKit Go.Proofs.Ytmmmknhdigapkaa.plq
set_option linter.unusedVariables false
noncomputable section
def adr:Value→Option Addr
 |.slice a _ _=>a|_=>none
def cpc:Value→Nat
 |.slice _ _ c=>c|_=>0
def bkV(v:Value):Nat:=match adr v with
 |some a=>a.block|none=>0
def ofV(v:Value):Nat:=match adr v with
 |some a=>a.off|none=>0
theorem c0V{w:World}{v:Value}{es:List (List G)}(h:GM w (.l v es)):v= .slice (adr v) es.length (cpc v):=by simp only[GM]at h;obtain⟨a,c,rfl,_⟩:=h;rfl
theorem a8L{w:World}{v:Value}{es:List (List G)}{ts:List Ty}(h:GM w (.l v es))(ht:TyLL ts es){i:Nat}{x:List G}(hx:es[i]? =some x):
  adr v=some ⟨bkV v,ofV v,none⟩∧bkV v<w.heap.size∧GMC w (bkV v) (ofV v+i*ts.length) x:=by
 have hne:es≠[]:=by intro h;rw[h]at hx;cases hx
 simp only[GM]at h;obtain⟨a,c,rfl,h⟩:=h;rcases h with⟨h,_⟩|⟨B,O,rfl,h⟩
 ·exact absurd h hne
 ·rcases h with h|⟨h1,h2⟩
  ·exact absurd h hne
  ·exact⟨rfl,h1,GME.at h2 ht hx⟩
def d2a(x:List G):Ins:=((x.getD 0 .d).int,(x.getD 1 .d).int,(x.getD 2 .d).int)
def c3Z(x:List G):Ab:=⟨(x.getD 0 .d).int,(x.getD 1 .d).int,(x.getD 2 .d).int,(x.getD 3 .d).int,(x.getD 4 .d).int,(x.getD 5 .d).int,(x.getD 6 .d).int,(x.getD 7 .d).bool,
 (x.getD 8 .d).es.map fun y=>(y.getD 0 .d).int,(x.getD 9 .d).es.map d2a,(x.getD 10 .d).int,(x.getD 11 .d).int,(x.getD 12 .d).int⟩
def abV(x:List G)(i:Nat):List G:=(x.getD 10 .d).es.getD i []
def b1k(x:List G):Cx where
 name:=(x.getD 0 .d).str
 kind:=(x.getD 1 .d).int
 c0:=(x.getD 2 .d).int
 c1:=(x.getD 3 .d).int
 c2:=(x.getD 4 .d).int
 c3:=(x.getD 5 .d).int
 color:=(x.getD 6 .d).int
 power:=(x.getD 7 .d).int
 tough:=(x.getD 8 .d).int
 keys:=(x.getD 9 .d).int
 abs:=(x.getD 10 .d).es.map c3Z
 oa:=adr (x.getD 10 .d).val
 cap:=cpc (x.getD 10 .d).val
 B:=bkV (x.getD 10 .d).val
 O:=ofV (x.getD 10 .d).val
 ta:=fun i=>adr ((abV x i).getD 8 .d).val
 tc:=fun i=>cpc ((abV x i).getD 8 .d).val
 tB:=fun i=>bkV ((abV x i).getD 8 .d).val
 tO:=fun i=>ofV ((abV x i).getD 8 .d).val
 ca:=fun i=>adr ((abV x i).getD 9 .d).val
 cc:=fun i=>cpc ((abV x i).getD 9 .d).val
 cB:=fun i=>bkV ((abV x i).getD 9 .d).val
 cO:=fun i=>ofV ((abV x i).getD 9 .d).val
def cdL(s:ByteArray)(n1 n2 n3 n4 n5 n6 n7 n8 n9:Int)(v:Value)(es:List (List G)):List G:=
 [.s s,.i .i64 n1,.i .i64 n2,.i .i64 n3,.i .i64 n4,.i .i64 n5,.i .i64 n6,.i .i64 n7,.i .i64 n8,.i .i64 n9,.l v es]
def abL(n0 n1 n2 n3 n4 n5 n6 n10 n11 n12:Int)(tap:Bool)(tv cv:Value)(tg code:List (List G)):List G:=
 [.i .i64 n0,.i .i64 n1,.i .i64 n2,.i .i64 n3,.i .i64 n4,.i .i64 n5,.i .i64 n6,.b tap,.l tv tg,.l cv code,.i .i64 n10,.i .i64 n11,.i .i64 n12]
theorem b2x{x:List G}(ht:TyL a1T x): ∃s n1 n2 n3 n4 n5 n6 n7 n8 n9 v es,x=cdL s n1 n2 n3 n4 n5 n6 n7 n8 n9 v es∧s.size≤9223372036854775807∧I64 n1∧I64 n2∧I64 n3∧I64 n4∧I64 n5∧I64 n6∧I64 n7∧I64 n8∧I64 n9∧TyLL a5B es∧es.length≤9223372036854775807:=by obtain⟨g0,l,rfl,t0,h0⟩:=tyC ht;obtain⟨s,rfl,hs⟩:=tyS t0;obtain⟨g1,l,rfl,t1,h1⟩:=tyC h0;obtain⟨n1,rfl,a1,b1⟩:=a0a t1;obtain⟨g2,l,rfl,t2,h2⟩:=tyC h1;obtain⟨n2,rfl,a2,b2⟩:=a0a t2;obtain⟨g3,l,rfl,t3,h3⟩:=tyC h2;obtain⟨n3,rfl,a3,b3⟩:=a0a t3;obtain⟨g4,l,rfl,t4,h4⟩:=tyC h3;obtain⟨n4,rfl,a4,b4⟩:=a0a t4;obtain⟨g5,l,rfl,t5,h5⟩:=tyC h4;obtain⟨n5,rfl,a5,b5⟩:=a0a t5;obtain⟨g6,l,rfl,t6,h6⟩:=tyC h5;obtain⟨n6,rfl,a6,b6⟩:=a0a t6;obtain⟨g7,l,rfl,t7,h7⟩:=tyC h6;obtain⟨n7,rfl,a7,b7⟩:=a0a t7;obtain⟨g8,l,rfl,t8,h8⟩:=tyC h7;obtain⟨n8,rfl,a8,b8⟩:=a0a t8;obtain⟨g9,l,rfl,t9,h9⟩:=tyC h8;obtain⟨n9,rfl,a9,b9⟩:=a0a t9;obtain⟨g10,l,rfl,t10,h10⟩:=tyC h9;obtain⟨v,es,rfl,e1,e2⟩:=b3l t10;obtain rfl:=tyN h10;exact⟨s,n1,n2,n3,n4,n5,n6,n7,n8,n9,v,es,rfl,hs,⟨a1,b1⟩,⟨a2,b2⟩,⟨a3,b3⟩,⟨a4,b4⟩,⟨a5,b5⟩,⟨a6,b6⟩,⟨a7,b7⟩,⟨a8,b8⟩,⟨a9,b9⟩,e1,e2⟩
theorem b0t{x:List G}(ht:TyL a5B x): ∃n0 n1 n2 n3 n4 n5 n6 n10 n11 n12 tap tv cv tg code,x=abL n0 n1 n2 n3 n4 n5 n6 n10 n11 n12 tap tv cv tg code∧I64 n0∧I64 n1∧I64 n2∧I64 n3∧I64 n4∧I64 n5∧I64 n6∧I64 n10∧I64 n11∧I64 n12∧TyLL b6D tg∧tg.length≤9223372036854775807∧TyLL b4m code∧code.length≤9223372036854775807:=by obtain⟨g0,l,rfl,t0,h0⟩:=tyC ht;obtain⟨n0,rfl,a0,b0⟩:=a0a t0;obtain⟨g1,l,rfl,t1,h1⟩:=tyC h0;obtain⟨n1,rfl,a1,b1⟩:=a0a t1;obtain⟨g2,l,rfl,t2,h2⟩:=tyC h1;obtain⟨n2,rfl,a2,b2⟩:=a0a t2;obtain⟨g3,l,rfl,t3,h3⟩:=tyC h2;obtain⟨n3,rfl,a3,b3⟩:=a0a t3;obtain⟨g4,l,rfl,t4,h4⟩:=tyC h3;obtain⟨n4,rfl,a4,b4⟩:=a0a t4;obtain⟨g5,l,rfl,t5,h5⟩:=tyC h4;obtain⟨n5,rfl,a5,b5⟩:=a0a t5;obtain⟨g6,l,rfl,t6,h6⟩:=tyC h5;obtain⟨n6,rfl,a6,b6⟩:=a0a t6;obtain⟨g7,l,rfl,t7,h7⟩:=tyC h6;obtain⟨tap,rfl⟩:=tyB t7;obtain⟨g8,l,rfl,t8,h8⟩:=tyC h7;obtain⟨tv,tg,rfl,e1,e2⟩:=b3l t8;obtain⟨g9,l,rfl,t9,h9⟩:=tyC h8;obtain⟨cv,code,rfl,e3,e4⟩:=b3l t9;obtain⟨g10,l,rfl,t10,h10⟩:=tyC h9;obtain⟨n10,rfl,a10,b10⟩:=a0a t10;obtain⟨g11,l,rfl,t11,h11⟩:=tyC h10;obtain⟨n11,rfl,a11,b11⟩:=a0a t11;obtain⟨g12,l,rfl,t12,h12⟩:=tyC h11;obtain⟨n12,rfl,a12,b12⟩:=a0a t12;obtain rfl:=tyN h12;exact⟨n0,n1,n2,n3,n4,n5,n6,n10,n11,n12,tap,tv,cv,tg,code,rfl,⟨a0,b0⟩,⟨a1,b1⟩,⟨a2,b2⟩,⟨a3,b3⟩,⟨a4,b4⟩,⟨a5,b5⟩,⟨a6,b6⟩,⟨a10,b10⟩,⟨a11,b11⟩,⟨a12,b12⟩,e1,e2,e3,e4⟩
theorem b6X{n0 n1 n2 n3 n4 n5 n6 n10 n11 n12:Int}{tap:Bool}{tv cv:Value}{tg code:List (List G)}:c3Z (abL n0 n1 n2 n3 n4 n5 n6 n10 n11 n12 tap tv cv tg code)=⟨n0,n1,n2,n3,n4,n5,n6,tap,tg.map fun y=>(y.getD 0 .d).int,code.map d2a,n10,n11,n12⟩:=rfl
theorem b7J{x:List G}(h:TyL b6D x): ∃n,x= [.i .i64 n]∧I64 n:=by obtain⟨g,l,rfl,t,h0⟩:=tyC h;obtain⟨n,rfl,a,b⟩:=a0a t;obtain rfl:=tyN h0;exact⟨n,rfl,a,b⟩
theorem b7x{x:List G}(h:TyL b4m x): ∃a b c,x= [.i .i64 a,.i .i64 b,.i .i64 c]∧I64 a∧I64 b∧I64 c:=by obtain⟨g,l,rfl,t,h0⟩:=tyC h;obtain⟨a,rfl,a1,a2⟩:=a0a t;obtain⟨g,l,rfl,t,h1⟩:=tyC h0;obtain⟨b,rfl,b1,b2⟩:=a0a t;obtain⟨g,l,rfl,t,h2⟩:=tyC h1;obtain⟨c,rfl,c1,c2⟩:=a0a t;obtain rfl:=tyN h2;exact⟨a,b,c,rfl,⟨a1,a2⟩,⟨b1,b2⟩,⟨c1,c2⟩⟩
theorem TyLL.mem{ts:List Ty}{es:List (List G)}(h:TyLL ts es){x:List G}(hx:x∈es):TyL ts x:=by obtain⟨i,hi,rfl⟩:=List.getElem_of_mem hx;exact TyLL.at h (List.getElem?_eq_getElem hi)
theorem d5J{x:List G}(h:TyL a5B x):(c3Z x).Fits:=by
 obtain⟨n0,n1,n2,n3,n4,n5,n6,n10,n11,n12,tap,tv,cv,tg,code,rfl,i0,i1,i2,i3,i4,i5,i6,i10,i11,i12,e1,e2,e3,e4⟩:=b0t h;rw[b6X];refine⟨?_, ?_, ?_, ?_⟩
 ·intro z hz;simp only[List.mem_cons,List.not_mem_nil,or_false]at hz;rcases hz with rfl|rfl|rfl|rfl|rfl|rfl|rfl|rfl|rfl|rfl<;>assumption
 ·intro z hz;obtain⟨y,hy,rfl⟩:=List.mem_map.1 hz;obtain⟨n,rfl,hn⟩:=b7J (TyLL.mem e1 hy);exact hn
 ·simp only[List.length_map];omega
 ·simp only[List.length_map];omega
theorem d7g{w:World}{x:List G}(ht:TyL a1T x)(hm:GML w x):(b1k x).OK w:=by
 obtain⟨s,n1,n2,n3,n4,n5,n6,n7,n8,n9,v,es,rfl,hs,i1,i2,i3,i4,i5,i6,i7,i8,i9,e1,e2⟩:=b2x ht;have hv:GM w (.l v es):=GML.at (j:=10) hm rfl;have hlen:(b1k (cdL s n1 n2 n3 n4 n5 n6 n7 n8 n9 v es)).abs.length=es.length:=by simp[b1k,cdL,G.es]
 have hab: ∀i,i<es.length→ ∃x,es[i]? =some x∧TyL a5B x∧(b1k (cdL s n1 n2 n3 n4 n5 n6 n7 n8 n9 v es)).ab i=c3Z x∧abV (cdL s n1 n2 n3 n4 n5 n6 n7 n8 n9 v es) i=x:=fun i hi=>by
  refine⟨es[i],List.getElem?_eq_getElem hi,TyLL.at e1 (List.getElem?_eq_getElem hi), ?_, ?_⟩
  ·show(es.map c3Z).getD i Ab.zero=_;rw[List.getD_eq_getElem?_getD,List.getElem?_map,List.getElem?_eq_getElem hi];rfl
  ·show es.getD i []=_;rw[List.getD_eq_getElem?_getD,List.getElem?_eq_getElem hi];rfl
 refine⟨fun i hi=> ?_,fun i j hi hj=> ?_,fun i hi=> ?_, ?_,by show(s.size:Int)≤_;omega,by rw[hlen];omega, ?_⟩
 ·rw[hlen]at hi;obtain⟨x,hx,tx,ex,vx⟩:=hab i hi;obtain⟨a1,a2,a3⟩:=a8L hv e1 hx;refine⟨a1,a2,fun j u hu=> ?_⟩;have hgm:=fun g (hg:x[j]? =some g)=>GMC.cell a3 hg;obtain⟨m0,m1,m2,m3,m4,m5,m6,m10,m11,m12,tap,tv,cv,tg,code,rfl,_⟩:=b0t tx;have ht8:GM w (.l tv tg):=(GMC.cell a3 (j:=8) rfl).2;have ht9:GM w (.l cv code):=(GMC.cell a3 (j:=9) rfl).2
  have ec:(b1k (cdL s n1 n2 n3 n4 n5 n6 n7 n8 n9 v es)).cells i=(abL m0 m1 m2 m3 m4 m5 m6 m10 m11 m12 tap tv cv tg code).map G.val:=by unfold Cx.cells;rw[ex,b6X];show [_,_,_,_,_,_,_,_,Value.slice (adr ((abV _ i).getD 8 .d).val) (List.map _ tg).length (cpc ((abV _ i).getD 8 .d).val),Value.slice (adr ((abV _ i).getD 9 .d).val) (List.map _ code).length (cpc ((abV _ i).getD 9 .d).val),_,_,_]=_;rw[vx,List.length_map,List.length_map];show [_,_,_,_,_,_,_,_,Value.slice (adr tv) tg.length (cpc tv),Value.slice (adr cv) code.length (cpc cv),_,_,_]= [_,_,_,_,_,_,_,_,tv,cv,_,_,_];rw[←c0V ht8,←c0V ht9];rfl
  rw[ec,List.getElem?_map]at hu;cases hg:(abL m0 m1 m2 m3 m4 m5 m6 m10 m11 m12 tap tv cv tg code)[j]? with
  |none=>rw[hg]at hu;cases hu
  |some g=>rw[hg]at hu;cases hu;exact(hgm g hg).1
 ·rw[hlen]at hi;obtain⟨x,hx,tx,ex,vx⟩:=hab i hi;obtain⟨_,_,a3⟩:=a8L hv e1 hx;obtain⟨m0,m1,m2,m3,m4,m5,m6,m10,m11,m12,tap,tv,cv,tg,code,rfl,_,_,_,_,_,_,_,_,_,_,f1,_⟩:=b0t tx;have ht8:GM w (.l tv tg):=(GMC.cell a3 (j:=8) rfl).2;rw[ex,b6X]at hj ⊢;simp only[List.length_map]at hj;obtain⟨b1,b2,b3⟩:=a8L ht8 f1 (List.getElem?_eq_getElem hj);show adr ((abV _ i).getD 8 .d).val=some ⟨bkV ((abV _ i).getD 8 .d).val,ofV ((abV _ i).getD 8 .d).val,none⟩∧bkV ((abV _ i).getD 8 .d).val<_∧w.cell? ⟨bkV ((abV _ i).getD 8 .d).val,ofV ((abV _ i).getD 8 .d).val+j,none⟩=_;rw[vx];obtain⟨n,en,_⟩:=b7J (TyLL.at f1 (List.getElem?_eq_getElem hj));rw[en]at b3;have b4:=(GMC.cell b3 (j:=0) rfl).1;refine⟨b1,b2, ?_⟩
  have e3:(tg.map fun y=>(y.getD 0 .d).int).getD j 0=n:=by rw[List.getD_eq_getElem?_getD,List.getElem?_map,List.getElem?_eq_getElem hj,en];rfl
  show w.cell? ⟨bkV tv,ofV tv+j,none⟩=some (.int .i64 ((tg.map fun y=>(y.getD 0 .d).int).getD j 0));rw[e3];rw[show ofV tv+j=ofV tv+j*b6D.length+0 by rw[c9J];omega];exact b4
 ·rw[hlen]at hi;obtain⟨x,hx,tx,ex,vx⟩:=hab i hi;obtain⟨_,_,a3⟩:=a8L hv e1 hx;obtain⟨m0,m1,m2,m3,m4,m5,m6,m10,m11,m12,tap,tv,cv,tg,code,rfl,_,_,_,_,_,_,_,_,_,_,_,_,f1,_⟩:=b0t tx;have ht9:GM w (.l cv code):=(GMC.cell a3 (j:=9) rfl).2;rw[ex,b6X];refine⟨fun k y hy=> ?_,fun y hy=> ?_⟩
  ·rw[List.getElem?_map]at hy;cases hk:code[k]? with
   |none=>rw[hk]at hy;cases hy
   |some z=>rw[hk]at hy;cases hy;obtain⟨b1,b2,b3⟩:=a8L ht9 f1 hk;obtain⟨a,b,c,rfl,_⟩:=b7x (TyLL.at f1 hk);rw[c1o]at b3;show adr ((abV _ i).getD 9 .d).val=some ⟨bkV ((abV _ i).getD 9 .d).val,ofV ((abV _ i).getD 9 .d).val,none⟩∧bkV ((abV _ i).getD 9 .d).val<_∧w.cell? ⟨bkV ((abV _ i).getD 9 .d).val,ofV ((abV _ i).getD 9 .d).val+k*3,none⟩=_∧w.cell? ⟨bkV ((abV _ i).getD 9 .d).val,ofV ((abV _ i).getD 9 .d).val+k*3+1,none⟩=_∧w.cell? ⟨bkV ((abV _ i).getD 9 .d).val,ofV ((abV _ i).getD 9 .d).val+k*3+2,none⟩=_;rw[vx];exact⟨b1,b2,(GMC.cell b3 (j:=0) rfl).1,(GMC.cell b3 (j:=1) rfl).1,(GMC.cell b3 (j:=2) rfl).1⟩
  ·obtain⟨z,hz,rfl⟩:=List.mem_map.1 hy;obtain⟨a,b,c,rfl,h1,h2,h3⟩:=b7x (TyLL.mem f1 hz);exact⟨h1,h2,h3⟩
 ·intro z hz;simp only[b1k,cdL,List.getD_cons_zero,List.getD_cons_succ,G.int,List.mem_cons,List.not_mem_nil,or_false]at hz;rcases hz with rfl|rfl|rfl|rfl|rfl|rfl|rfl|rfl|rfl<;>assumption
 ·intro y hy;obtain⟨x,hx,rfl⟩:=List.mem_map.1 hy;exact d5J (TyLL.mem e1 hx)
def b1q(a:List G):Prop:=(a.getD 8 .d).es.length≤5∧(a.getD 9 .d).es.length≤35
def a7D(x:List G):Prop:=(x.getD 0 .d).str.size≤40∧(x.getD 10 .d).es.length≤5∧ ∀a∈(x.getD 10 .d).es,b1q a
def smallP(es:List (List G)):Prop:=es.length≤42∧ ∀x∈es,a7D x
def a9t(es:List (List G)):Prop:=es.length≤42∧ ∀x∈es,(x.getD 10 .d).es.length≤5∧ ∀a∈(x.getD 10 .d).es,b1q a
theorem smallP.q{es:List (List G)}(h:smallP es):a9t es:=⟨h.1,fun x hx=>(h.2 x hx).2⟩
def a3y(es:List (List G)):Int:=PL.chk ⟨es.map b1k,none,0,0,0⟩
def d6J(v:Value)(es:List (List G)):PL:=⟨es.map b1k,adr v,cpc v,bkV v,ofV v⟩
theorem d1f(v:Value)(es:List (List G)):(d6J v es).chk=a3y es:=rfl
theorem d6b{w:World}{v:Value}{es:List (List G)}(ht:TyLL a1T es)(hm:GM w (.l v es))(hs:a9t es):(d6J v es).OK w∧(d6J v es).v=v:=by
 refine⟨⟨by simp[d6J];exact hs.1, ?_, ?_, ?_⟩, ?_⟩
 ·intro D hD;obtain⟨x,hx,rfl⟩:=List.mem_map.1 hD;obtain⟨i,hi,rfl⟩:=List.getElem_of_mem hx;obtain⟨_,_,h3⟩:=a8L hm ht (List.getElem?_eq_getElem hi);exact d7g (TyLL.mem ht hx) h3.gml
 ·intro D hD;obtain⟨x,hx,rfl⟩:=List.mem_map.1 hD;obtain⟨b,c⟩:=hs.2 x hx;refine⟨trivial,by simpa[b1k]using b,fun y hy=> ?_⟩;obtain⟨z,hz,rfl⟩:=List.mem_map.1 hy;obtain⟨c1,c2⟩:=c z hz;exact⟨by simpa[c3Z]using c1,by simpa[c3Z]using c2⟩
 ·intro i D hD;rw[show(d6J v es).cs=es.map b1k from rfl,List.getElem?_map]at hD;cases hx:es[i]? with
  |none=>rw[hx]at hD;cases hD
  |some x=>
   rw[hx]at hD;cases hD;obtain⟨h1,h2,h3⟩:=a8L hm ht hx;refine⟨h1, ?_⟩;have tx:=TyLL.at ht hx;obtain⟨s,n1,n2,n3,n4,n5,n6,n7,n8,n9,u,us,rfl,_⟩:=b2x tx;have hu:GM w (.l u us):=(GMC.cell h3 (j:=10) rfl).2
   have ec:(b1k (cdL s n1 n2 n3 n4 n5 n6 n7 n8 n9 u us)).cells11=(cdL s n1 n2 n3 n4 n5 n6 n7 n8 n9 u us).map G.val:=by show [_,_,_,_,_,_,_,_,_,_,Value.slice (adr u) (List.map c3Z us).length (cpc u)]= [_,_,_,_,_,_,_,_,_,_,u];rw[List.length_map,←c0V hu];rfl
   rw[ec];refine⟨h2,fun j y hj=> ?_⟩;rw[List.getElem?_map]at hj;cases hg:(cdL s n1 n2 n3 n4 n5 n6 n7 n8 n9 u us)[j]? with
   |none=>rw[hg]at hj;cases hj
   |some g=>rw[hg]at hj;cases hj;have:=(GMC.cell h3 hg).1;rw[b4l]at this;exact this
 ·show Value.slice (adr v) (List.map b1k es).length (cpc v)=v;rw[List.length_map];exact(c0V hm).symm
def d4u(f:FuncId):Ct:=⟨f,[.d (.l a1T)],[.d (.i .i64)],fun gs=>smallP (gs.getD 0 .d).es,fun gs=>[.i .i64 (a3y (gs.getD 0 .d).es)]⟩
theorem c7s(es:List (List G)):a3y es=0∨a3y es=2∨a3y es=3∨a3y es=10∨a3y es=11:=by
 unfold a3y PL.chk
 repeat' split
 all_goals simp
theorem e1w{f:FuncId}(h: ∀{p:PL} {w:World},p.OK w→Calls Try.prog f ⟨[p.v]⟩ w fun e w'=>e= .returned (n64 p.chk)∧Below w.heap.size w w'):CtOK Try.prog (d4u f):=by
 refine⟨rfl,fun gs ht hp=> ?_,fun w gs ht hm hp=> ?_⟩
 ·refine⟨?_,trivial⟩;show IntKind.i64=IntKind.i64∧_;refine⟨rfl, ?_⟩;show(-9223372036854775808:Int)≤_∧_≤(9223372036854775807:Int);rcases c7s (gs.getD 0 .d).es with h|h|h|h|h<;>rw[h]<;>decide
 ·obtain⟨g,l,rfl,t,h0⟩:=tyC ht;obtain⟨v,es,rfl,e1,e2⟩:=b3l t;obtain rfl:=tyN h0;obtain⟨h1,h2⟩:=d6b e1 (GML.at (j:=0) hm rfl) hp.q;have h3:=h h1;rw[h2,d1f]at h3;exact h3
def C10:List Ct:=[b8y 35,cNo,b9h 54,cNo,a7B 17,cNo,cAb 19,cNo,d4u 10,cNo]
theorem c8T: ∀c∈C10,CtOK Try.prog c:=by
 intro c hc;rw[show C10=C6++ [cAb 19,cNo,d4u 10,cNo]from rfl,List.mem_append]at hc;rcases hc with hc|hc
 ·exact d8p c hc
 ·simp only[List.mem_cons,List.not_mem_nil,or_false]at hc;rcases hc with rfl|rfl|rfl|rfl
  ·exact c4h
  ·exact b0g
  ·exact e1w b6t
  ·exact b0g
theorem e1m:b5t Try.prog (Cs C10) (Ds []) Try.f8 en=true:=by kernel_rfl
def a9f(s:ByteArray)(x:List G):ByteArray:=
 pn (pn (pn (pn (pn (pn (pn (pn (pn (pn (pn s (x.getD 0 .d).str.size++(x.getD 0 .d).str) (x.getD 1 .d).int) (x.getD 2 .d).int) (x.getD 3 .d).int) (x.getD 4 .d).int) (x.getD 5 .d).int) (x.getD 6 .d).int) (x.getD 7 .d).int) (x.getD 8 .d).int) (x.getD 9 .d).int) (x.getD 10 .d).es.length
def b6H(s:ByteArray)(l:List (List G)):ByteArray:=l.foldl abB s
def b1F(s:ByteArray)(x:List G):ByteArray:=b6H (a9f s x) (x.getD 10 .d).es
def a2I(s:ByteArray)(l:List (List G)):ByteArray:=l.foldl b1F s
def a7p(es:List (List G)):ByteArray:=a2I (pn ⟨#[]⟩ es.length) es
def encR(es:List (List G)):List G:=if a3y es=0 then [.s (a7p es),.i .i64 0]else [.s ⟨#[]⟩,.i .i64 (a3y es)]
def d9G:Nat→Prop→Prop→Prop
 |0,A,_=>A|_+1,_,B=>B
theorem c5a{A B:Prop}:d9G 0 A B=A:=rfl
theorem c5Z{A B:Prop}:d9G 1 A B=B:=rfl
theorem d9D{s t:ByteArray}{k B:Nat}(h:s.size+(k+t.size)≤B):(s++t).size+k≤B:=by rw[ByteArray.size_append];omega
theorem d6Q{s t:ByteArray}{x:Int}(h:s.size+(9+t.size)≤9223372036854775807):((s++c0O x++t).size:Int)≤9223372036854775807:=by have:=(b7V x).2;rw[ByteArray.size_append,ByteArray.size_append];omega
theorem szH{s:ByteArray}{x:List G}(h:a7D x):(a9f s x).size≤s.size+139:=by
 unfold a9f;have:=h.1
 ((try (with_reducible refine sz0 ?_));repeat (first|with_reducible refine b9s ?_|with_reducible refine b9d ?_|with_reducible refine szn ?_|with_reducible refine d9D ?_|with_reducible refine a4D ?_|with_reducible refine a3i ?_))
 omega
theorem d2f: ∀{l:List (List G)} {s:ByteArray},(∀a∈l,b1q a)→(b6H s l).size≤s.size+1107*l.length
 | [],s,_=>by simp[b6H]
 |a::l,s,h=>by
  have h1:=d2f (s:=abB s a) (fun b hb=>h b (List.mem_cons_of_mem _ hb));have h2:=e2o (s:=s) (g:=a) (k:=0) (B:=s.size+d1s a) (by omega)
  have h3:d1s a≤1107:=by obtain⟨h4,h5⟩:=h a List.mem_cons_self;unfold d1s;omega
  show(b6H (abB s a) l).size≤_;rw[List.length_cons];omega
theorem d6R{s:ByteArray}{x:List G}(h:a7D x):(b1F s x).size≤s.size+5674:=by have h1:=d2f (s:=a9f s x) h.2.2;have h2:=szH (s:=s) h;have h3:=h.2.1;show(b6H (a9f s x) _).size≤_;omega
theorem c5M: ∀{l:List (List G)} {s:ByteArray},(∀x∈l,a7D x)→(a2I s l).size≤s.size+5674*l.length
 | [],s,_=>by simp[a2I]
 |x::l,s,h=>by have h1:=c5M (s:=b1F s x) (fun b hb=>h b (List.mem_cons_of_mem _ hb));have h2:=d6R (s:=s) (h x List.mem_cons_self);show(a2I (b1F s x) l).size≤_;rw[List.length_cons];omega
theorem c8u{es:List (List G)}(h:smallP es)(i:Nat):(a2I (pn ⟨#[]⟩ es.length) (es.take i)).size≤9+5674*i:=by
 have h1:=c5M (s:=pn ⟨#[]⟩ es.length) (l:=es.take i) (fun x hx=>h.2 x (List.mem_of_mem_take hx))
 have h2:(pn (⟨#[]⟩:ByteArray) es.length).size+0≤9:=by
  ((try (with_reducible refine sz0 ?_));repeat (first|with_reducible refine b9s ?_|with_reducible refine b9d ?_|with_reducible refine szn ?_|with_reducible refine d9D ?_|with_reducible refine a4D ?_|with_reducible refine a3i ?_))
  decide
 have h3:(es.take i).length≤i:=List.length_take_le _ _;omega
theorem a6G{w:World}(v:Value)(es:List (List G))(hs:smallP es)(ht:TyL (a0F en.psh) [.l v es])(hm:GML w [.l v es]):
  Calls Try.prog 8 ⟨a3e en.psh [.l v es]⟩ w fun e w'=> ∃gs,gs=encR es∧e= .returned (a8w en.rs gs)∧TyL (a0F en.rs) gs∧GML (a0W w' []) gs∧Below w.heap.size w w':=by
 have hes:TyLL a1T es:=by obtain⟨v',es',e,h1,_⟩:=b3l (TyL.at ht (j:=0) rfl).choose_spec.2;have:=(TyL.at ht (j:=0) rfl).choose_spec.1;rw[e]at this;cases this;exact h1
 have hlen:=hs.1;refine a3n hng plq.mixed (a8u c8T) (b9c (by intro c hc;cases hc)) Try.func8 e1m (fun t σ=>d9G t (∃i:Nat,a3y es=0∧i≤es.length∧σ= [.s (a2I (pn ⟨#[]⟩ es.length) (es.take i)),.l v es,.i .i64 es.length,.i .i64 i]) (∃i j:Nat,a3y es=0∧i<es.length∧ ∃s n1 n2 n3 n4 n5 n6 n7 n8 n9 u us,es.getD i []=cdL s n1 n2 n3 n4 n5 n6 n7 n8 n9 u us∧j≤us.length∧σ= [.s (b6H (a9f (a2I (pn ⟨#[]⟩ es.length) (es.take i)) (es.getD i [])) (us.take j)),.l v es,.i .i64 es.length,.l u us,.i .i64 us.length,.i .i64 j,.i .i64 i])) (fun t σ=>if t=0 then(es.length-(σ.getD 3 .d).int.toNat)*10+9 else(es.length-(σ.getD 6 .d).int.toNat)*10+(8-(σ.getD 5 .d).int.toNat)) (fun gs=>gs=encR es) ?_ ?_ ?_ ?_ ?_ (L:=[]) (by intro b hb;cases hb) ht (by simpa[a0W]using hm)
 ·show wp (Cs C10) e1n _ _;unfold e1n
  (with_reducible refine a3Q ?_ ?_)
  ·simp only[C10,d4u,gG,Cs,List.getD_cons_zero,List.getD_cons_succ,a6y,List.map_cons,List.map_nil];exact hs
  simp only[C10,d4u,gG,Cs,List.getD_cons_zero,List.getD_cons_succ,List.cons_append,List.nil_append,a6y,List.map_cons,List.map_nil]
  (with_reducible refine a0r ?_ ?_)
  ·simp only[gG,List.getD_cons_zero,List.getD_cons_succ,a0D];intro hz
   repeat (first
    |((with_reducible refine a3t ?_);simp only[gG,List.getD_cons_zero,List.getD_cons_succ,List.cons_append,List.nil_append,a0D])
    |((with_reducible refine a1Z ?_);simp only[gG,List.getD_cons_zero,List.cons_append,List.nil_append,a2Y])
    |((with_reducible refine a4V ?_);simp only[gG,Cs,List.getD_cons_zero,List.getD_cons_succ,List.getD_nil,List.cons_append,List.nil_append,List.append_nil,a0D,a1R,a2w,a6y,b2b,a2Y,a2Q,a1b,a1v,a0z,List.length_cons,List.length_nil,List.map_cons,List.map_nil,a8V,a8U,List.tail_cons,Int.toNat_natCast,Nat.zero_add,Nat.reduceAdd,a0l])
    |((with_reducible refine c4v ?_ ?_);(focus (simp only[gG,Cs,List.getD_cons_zero,List.getD_cons_succ,List.getD_nil,List.cons_append,List.nil_append,List.append_nil,a0D,a1R,a2w,a6y,b2b,a2Y,a2Q,a1b,a1v,a0z,List.length_cons,List.length_nil,List.map_cons,List.map_nil,a8V,a8U,List.tail_cons,Int.toNat_natCast,Nat.zero_add,Nat.reduceAdd,a0l];refine d6Q ?_;omega));simp only[gG,Cs,List.getD_cons_zero,List.getD_cons_succ,List.getD_nil,List.cons_append,List.nil_append,List.append_nil,a0D,a1R,a2w,a6y,b2b,a2Y,a2Q,a1b,a1v,a0z,List.length_cons,List.length_nil,List.map_cons,List.map_nil,a8V,a8U,List.tail_cons,Int.toNat_natCast,Nat.zero_add,Nat.reduceAdd,a0l])
    |((with_reducible refine a3Q ?_ ?_);(focus (simp only[b8y,a7B,b9h,gG,Cs,List.getD_cons_zero,List.getD_cons_succ,a0D,a1R,List.map_cons,List.map_nil];((try (with_reducible refine sz0 ?_));repeat (first|with_reducible refine b9s ?_|with_reducible refine b9d ?_|with_reducible refine szn ?_|with_reducible refine d9D ?_|with_reducible refine a4D ?_|with_reducible refine a3i ?_));first|omega|exact Nat.zero_le _));simp only[b8y,a7B,b9h,gG,Cs,List.getD_cons_zero,List.getD_cons_succ,List.cons_append,List.nil_append,a0D,a1R,List.map_cons,List.map_nil]))
   (with_reducible refine a0C ?_)
   simp only[gG,a7q,allG1,b2B,List.getD_cons_zero,List.getD_cons_succ,a0D];rw[c5a];refine⟨0,hz,Nat.zero_le _, ?_⟩;rfl
  ·simp only[gG,List.getD_cons_zero,List.getD_cons_succ,a0D];intro hz
   (with_reducible refine a0c ?_)
   simp only[gG,a7q,allG1,c5r,List.getD_cons_zero,List.getD_cons_succ,a0D];exact(if_neg hz).symm
 ·simp only[en,List.mem_cons,List.not_mem_nil,or_false];rintro q (rfl|rfl) σ hi q j jn ts et n h
  ·exfalso;revert h;cases q<;>simp[d7e]
  ·exfalso;revert h;cases q<;>simp[d7d]
 ·intro q hq;cases hq
 ·simp only[en,List.mem_cons,List.not_mem_nil,or_false];rintro q (rfl|rfl) σ hty hi
  ·replace hi:=c5a.mp hi;obtain⟨i,h0,hi,rfl⟩:=hi;show wp (Cs C10) d4N _ _;unfold d4N;have hz:=c8u hs i
   (with_reducible refine a0w ?_ ?_)
   ·simp only[gG,List.getD_cons_zero,List.getD_cons_succ,List.getD_nil,a0D,Int.toNat_natCast];intro hlt;have hlt':i<es.length:=by omega
    obtain⟨s,n1,n2,n3,n4,n5,n6,n7,n8,n9,u,us,hx,_⟩:=b2x (TyLL.getD hes hlt');have hsm:a7D (es.getD i []):=hs.2 _ (by rw[List.getD_eq_getElem?_getD,List.getElem?_eq_getElem hlt'];exact List.getElem_mem hlt');rw[hx]at hsm;have hnm:s.size≤40:=hsm.1;have hab:us.length≤5:=hsm.2.1
    (with_reducible refine a3z ?_ ?_ ?_)
    ·simp only[gG,List.getD_cons_zero,List.getD_cons_succ,a0D];omega
    ·simp only[gG,List.getD_cons_zero,List.getD_cons_succ,a0D,a2Y];exact hlt
    simp only[b4l,gG,List.getD_cons_zero,List.getD_cons_succ,List.cons_append,List.nil_append,a0D,a2Q,a0z,a8V,a8U,Int.toNat_natCast,Nat.zero_add,Nat.reduceAdd];simp only[hx];simp only[cdL,List.getD_cons_zero,List.getD_cons_succ]
    repeat (first
     |((with_reducible refine a3t ?_);simp only[gG,List.getD_cons_zero,List.getD_cons_succ,List.cons_append,List.nil_append,a0D])
     |((with_reducible refine a1Z ?_);simp only[gG,List.getD_cons_zero,List.getD_cons_succ,List.cons_append,List.nil_append,a2Y])
     |((with_reducible refine a4V ?_);simp only[gG,List.getD_cons_zero,List.getD_cons_succ,List.cons_append,List.nil_append,a1R])
     |((with_reducible refine c4v ?_ ?_);(focus (simp only[gG,List.getD_cons_zero,List.getD_cons_succ,a1R];refine d6Q ?_;omega));simp only[gG,List.getD_cons_zero,List.getD_cons_succ,List.cons_append,List.nil_append,a1R])
     |((with_reducible refine a3Q ?_ ?_);(focus (simp only[C10,b8y,a7B,b9h,gG,Cs,List.getD_cons_zero,List.getD_cons_succ,a0D,a1R,List.map_cons,List.map_nil];((try (with_reducible refine sz0 ?_));repeat (first|with_reducible refine b9s ?_|with_reducible refine b9d ?_|with_reducible refine szn ?_|with_reducible refine d9D ?_|with_reducible refine a4D ?_|with_reducible refine a3i ?_));first|omega|exact Nat.zero_le _));simp only[C10,b8y,a7B,b9h,gG,Cs,List.getD_cons_zero,List.getD_cons_succ,List.cons_append,List.nil_append,a0D,a1R,List.map_cons,List.map_nil]))
    (with_reducible refine a0C ?_)
    simp only[gG,a7q,allG1,a5U,List.getD_cons_zero,List.getD_cons_succ,a0D,Int.toNat_natCast];rw[c5Z];refine⟨⟨i,0,h0,hlt',s,n1,n2,n3,n4,n5,n6,n7,n8,n9,u,us,hx,Nat.zero_le _, ?_⟩, ?_⟩
    ·rw[hx];simp only[List.take_zero,b6H,List.foldl_nil,a9f,pn,cdL,List.getD_cons_zero,List.getD_cons_succ,a0D,a1R,a6y];rfl
    ·simp
     try omega
   ·simp only[gG,List.getD_cons_zero,List.getD_cons_succ,List.getD_nil,a0D,Int.toNat_natCast];intro hge
    (with_reducible refine a0c ?_)
    simp only[gG,a7q,allG1,b2A,List.getD_cons_zero];rw[List.take_of_length_le (by omega)];exact(if_pos h0).symm
  ·obtain⟨i,j,h0,hlt,s,n1,n2,n3,n4,n5,n6,n7,n8,n9,u,us,hx,hj,rfl⟩:=c5Z.mp hi;show wp (Cs C10) d4M _ _;unfold d4M;have tx:TyL a1T (cdL s n1 n2 n3 n4 n5 n6 n7 n8 n9 u us):=hx▸TyLL.getD hes hlt
   have hus:TyLL a5B us:=by obtain⟨s',m1,m2,m3,m4,m5,m6,m7,m8,m9,u',us',e,_,_,_,_,_,_,_,_,_,_,h1,_⟩:=b2x tx;cases e;exact h1
   have hsm:a7D (es.getD i []):=hs.2 _ (by rw[List.getD_eq_getElem?_getD,List.getElem?_eq_getElem hlt];exact List.getElem_mem hlt);have hab:us.length≤5:=by rw[hx]at hsm;exact hsm.2.1
   have hsA: ∀a∈us,b1q a:=by rw[hx]at hsm;exact hsm.2.2
   have hz:(b6H (a9f (a2I (pn ⟨#[]⟩ es.length) (es.take i)) (es.getD i [])) (us.take j)).size≤9+5674*i+139+1107*j:=by have h1:=d2f (l:=us.take j) (s:=a9f (a2I (pn ⟨#[]⟩ es.length) (es.take i)) (es.getD i [])) (fun a ha=>hsA a (List.mem_of_mem_take ha));have h2:=szH (s:=a2I (pn ⟨#[]⟩ es.length) (es.take i)) hsm;have h3:=c8u hs i;have h4:(us.take j).length≤j:=List.length_take_le _ _;omega
   (with_reducible refine a0w ?_ ?_)
   ·simp only[gG,List.getD_cons_zero,List.getD_cons_succ,a0D,Int.toNat_natCast];intro hjl;have hjl':j<us.length:=by omega
    obtain⟨m0,m1,m2,m3,m4,m5,m6,m10,m11,m12,tap,tv,cv,tg,code,hy,_⟩:=b0t (TyLL.getD hus hjl');have hsa:b1q (us.getD j []):=hsA _ (by rw[List.getD_eq_getElem?_getD,List.getElem?_eq_getElem hjl'];exact List.getElem_mem hjl');rw[hy]at hsa;have htg:tg.length≤5:=hsa.1;have hcd:code.length≤35:=hsa.2
    (with_reducible refine a3z ?_ ?_ ?_)
    ·simp only[gG,List.getD_cons_zero,List.getD_cons_succ,a0D];omega
    ·simp only[gG,List.getD_cons_zero,List.getD_cons_succ,a0D,a2Y];exact hjl
    simp only[c1n,gG,List.getD_cons_zero,List.getD_cons_succ,List.cons_append,List.nil_append,a0D,a2Q,a0z,a8V,a8U,Int.toNat_natCast,Nat.zero_add,Nat.reduceAdd];simp only[hy];simp only[abL,List.getD_cons_zero,List.getD_cons_succ]
    (with_reducible refine a3Q ?_ ?_)
    ·simp only[C10,cAb,d1s,gG,Cs,List.getD_cons_zero,List.getD_cons_succ,a0D,a1R,a6y,List.map_cons,List.map_nil,a8U,Nat.reduceAdd];omega
    simp only[C10,cAb,gG,Cs,List.getD_cons_zero,List.getD_cons_succ,List.cons_append,List.nil_append,a0D,a1R,List.map_cons,List.map_nil,List.tail_cons]
    (with_reducible refine a1F ?_)
    simp only[gG,List.getD_cons_zero,List.getD_cons_succ,List.cons_append,List.nil_append,a0D]
    (with_reducible refine a0C ?_)
    simp only[gG,a7q,allG1,a5U,List.getD_cons_zero,List.getD_cons_succ,a0D,Int.toNat_natCast];rw[c5Z];refine⟨⟨i,j+1,h0,hlt,s,n1,n2,n3,n4,n5,n6,n7,n8,n9,u,us,hx,by omega, ?_⟩, ?_⟩
    ·have e:b6H (a9f (a2I (pn ⟨#[]⟩ es.length) (es.take i)) (es.getD i [])) (us.take (j+1))=abB (b6H (a9f (a2I (pn ⟨#[]⟩ es.length) (es.take i)) (es.getD i [])) (us.take j)) (us.getD j []):=a8X hjl';rw[a2i (by omega),e,hy];rfl
    ·rw[a2i (by omega)]
     simp
     try omega
   ·simp only[gG,List.getD_cons_zero,List.getD_cons_succ,a0D,Int.toNat_natCast];intro hge
    (with_reducible refine a1F ?_)
    simp only[gG,List.getD_cons_zero,List.getD_cons_succ,List.cons_append,List.nil_append,a0D]
    (with_reducible refine a0C ?_)
    simp only[gG,a7q,allG1,a5U,List.getD_cons_zero,List.getD_cons_succ,List.getD_nil,a0D];rw[c5a];refine⟨⟨i+1,h0,hlt, ?_⟩, ?_⟩
    ·have e:a2I (pn ⟨#[]⟩ es.length) (es.take (i+1))=b1F (a2I (pn ⟨#[]⟩ es.length) (es.take i)) (es.getD i []):=a8X hlt
     have e2:b1F (a2I (pn ⟨#[]⟩ es.length) (es.take i)) (es.getD i [])=b6H (a9f (a2I (pn ⟨#[]⟩ es.length) (es.take i)) (es.getD i [])) us:=by unfold b1F;rw[hx];rfl
     rw[a2i (by omega),e,e2,show us.take j=us from List.take_of_length_le (by omega)]
    ·rw[a2i (by omega)]
     simp
     try omega
 ·intro q hq;cases hq
def e1p(v:Value)(es:List (List G))(t:Nat)(σ:List G):Prop:=
 d9G t (∃(i:Nat) (b:Bool) (out:List (List G)),i≤42∧out.length≤i∧(∀x∈out,a7D x)∧σ= [.l v es,.w out,.b b,.i .i64 i])
  (∃(i k:Nat) (b b1:Bool) (out ab:List (List G)) (nm:ByteArray) (n1 n2 n3 n4 n5 n6 n7 n8 n9:Int) (A:G),i<42∧k≤5∧out.length≤i∧(∀x∈out,a7D x)∧ab.length≤k∧(∀x∈ab,b1q x)∧nm.size≤40∧
   σ= [.l v es,.s nm,.i .i64 n1,.i .i64 n2,.i .i64 n3,.i .i64 n4,.i .i64 n5,.i .i64 n6,.i .i64 n7,.i .i64 n8,.i .i64 n9,A,.w ab,.b b1,.i .i64 k,.i .i64 i,.w out,.b b])
theorem e3G{v:Value}{es out:List (List G)}{i:Nat}{b:Bool}(h1:i≤42)(h2:out.length≤i)(h3: ∀x∈out,a7D x):e1p v es 0 [.l v es,.w out,.b b,.i .i64 i]:=⟨i,b,out,h1,h2,h3,rfl⟩
theorem e3F{v:Value}{es out ab:List (List G)}{i k:Nat}{b b1:Bool}{nm:ByteArray}{n1 n2 n3 n4 n5 n6 n7 n8 n9:Int}{A:G}(h1:i<42)(h2:k≤5)(h3:out.length≤i)(h4: ∀x∈out,a7D x)(h5:ab.length≤k)(h6: ∀x∈ab,b1q x)(h7:nm.size≤40):
  e1p v es 1 [.l v es,.s nm,.i .i64 n1,.i .i64 n2,.i .i64 n3,.i .i64 n4,.i .i64 n5,.i .i64 n6,.i .i64 n7,.i .i64 n8,.i .i64 n9,A,.w ab,.b b1,.i .i64 k,.i .i64 i,.w out,.b b]:=
 ⟨i,k,b,b1,out,ab,nm,n1,n2,n3,n4,n5,n6,n7,n8,n9,A,h1,h2,h3,h4,h5,h6,h7,rfl⟩
def d4U:Nat→List G→Nat
 |0,σ=>(42-(σ.getD 3 .d).int.toNat)*10+9|_+1,σ=>(42-(σ.getD 15 .d).int.toNat)*10+(8-(σ.getD 14 .d).int.toNat)
theorem c1g{l:List (List G)}{x:List G}{k:Nat}(h:l.length≤k):(l++ [x]).length≤k+1:=by simp;exact h
theorem b4h{p:List G→Prop}{l:List (List G)}{x:List G}(h: ∀y∈l,p y)(hx:p x): ∀y∈l++ [x],p y:=fun y hy=>by
 rcases List.mem_append.1 hy with hy|hy
 ·exact h y hy
 ·rw[List.mem_singleton.1 hy];exact hx
theorem c6K{x:List G}{k:Nat}:[x].length≤k+1:=by simp
theorem c0L{p:List G→Prop}{x:List G}(hx:p x): ∀y∈ [x],p y:=fun y hy=>by rw[List.mem_singleton.1 hy];exact hx
theorem a7V{p:List G→Prop}: ∀y∈([]:List (List G)),p y:=fun y hy=>by cases hy
theorem b1K{l:List (List G)}{n m:Int}(hm:0≤m):((l.drop (Int.toNat 0)).take ((if m<n then m else n).toNat-Int.toNat 0)).length≤m.toNat:=by
 rw[List.length_take];have:(if m<n then m else n)≤m:=by split<;>omega
 omega
theorem d4F{s:ByteArray}{n:Int}:(s.extract (Int.toNat 0) (if 40<n then 40 else n).toNat).size≤40:=by
 rw[ByteArray.size_extract];have:(if 40<n then 40 else n)≤40:=by split<;>omega
 omega
theorem c6u{g:G}:0≤g.len:=by unfold G.len;omega
set_option maxHeartbeats 1000000 in
theorem b8V{w:World}(v:Value)(es:List (List G)){L:List Nat}(hL: ∀b∈L,b<w.heap.size)(ht:TyL (a0F cu.psh) [.l v es])(hm:GML (a0W w L) [.l v es]):
  Calls Try.prog 7 ⟨a3e cu.psh [.l v es]⟩ w fun e w'=> ∃gs,(∃v' es',gs= [.l v' es']∧smallP es')∧e= .returned (a8w cu.rs gs)∧TyL (a0F cu.rs) gs∧GML (a0W w' L) gs∧Below w.heap.size w w':=by
 refine a3n hng plq.mixed (a8u (by intro c hc;cases hc)) (b9c (by intro c hc;cases hc)) Try.func7 e1q (e1p v es) d4U (fun gs=> ∃v' es',gs= [.l v' es']∧smallP es') ?_ ?_ ?_ ?_ ?_ hL ht hm
 ·show wp (Cs []) e1r _ _;unfold e1r
  (with_reducible refine a0C ?_)
  simp only[gG,a7q,allG1,allGG,b2B,List.getD_cons_zero,List.append_nil,a1b];exact e3G (i:=0) (by omega) (Nat.zero_le _) a7V
 ·simp only[cu,List.mem_cons,List.not_mem_nil,or_false];rintro q (rfl|rfl) σ hi q j jn ts et n h
  ·obtain⟨i,b,out,h1,h2,h3,rfl⟩:=c5a.mp hi
   match q,h with
   |0,h=>cases h;show((out.length:Nat):Int)≤((42:Nat):Int);omega
   |q+1,h=>simp[d7j]at h
  ·obtain⟨i,k,b,b1,out,ab,nm,n1,n2,n3,n4,n5,n6,n7,n8,n9,A,h1,h2,h3,h4,h5,h6,h7,rfl⟩:=c5Z.mp hi
   match q,h with
   |0,h=>cases h
   |1,h=>cases h;show((ab.length:Nat):Int)≤((42:Nat):Int);omega
   |2,h=>cases h;show((out.length:Nat):Int)≤((42:Nat):Int);omega
   |q+3,h=>simp[d7i]at h
 ·intro q hq;cases hq
 ·simp only[cu,List.mem_cons,List.not_mem_nil,or_false];rintro q (rfl|rfl) σ hty hi
  ·obtain⟨i,b,out,h1,h2,h3,rfl⟩:=c5a.mp hi;show wp (Cs []) d4W _ _;unfold d4W;clear hi hty
   repeat' (first
    |((with_reducible refine a3d ?_ ?_)<;>(simp only[List.getD_cons_zero,List.getD_cons_succ,a2w];intro _))
    |((with_reducible refine a0w ?_ ?_)<;>(simp only[gG,List.getD_cons_zero,List.getD_cons_succ,a0D];intro _))
    |((with_reducible refine a1Z ?_);simp only[gG,List.getD_cons_zero,List.cons_append,List.nil_append,a2Y])
    |((with_reducible refine a4V ?_);simp only[gG,List.getD_cons_zero,List.getD_cons_succ,List.cons_append,List.nil_append])
    |((with_reducible refine d2H ?_);simp only[gG,List.getD_cons_zero,List.getD_cons_succ,List.cons_append,List.nil_append,a0D])
    |((with_reducible refine a1F ?_);simp only[gG,Cs,List.getD_cons_zero,List.getD_cons_succ,List.getD_nil,List.cons_append,List.nil_append,List.append_nil,a0D,a1R,a2w,a6y,b2b,a2Y,a2Q,a1b,a1v,a0z,List.length_cons,List.length_nil,List.map_cons,List.map_nil,a8V,a8U,List.tail_cons,Int.toNat_natCast,Nat.zero_add,Nat.reduceAdd,a0l])
    |((with_reducible refine a3z ?_ ?_ ?_);(focus (simp only[gG,List.getD_cons_zero,List.getD_cons_succ,a0D];omega));(focus (simp only[gG,List.getD_cons_zero,List.getD_cons_succ,a0D,a2Y];omega));simp only[b4l,gG,List.getD_cons_zero,List.getD_cons_succ,List.cons_append,List.nil_append,a0D,a2Q,a0z,a8V,a8U,Int.toNat_natCast,Nat.zero_add,Nat.reduceAdd])
    |((with_reducible refine a7t ?_ ?_ ?_ ?_);(focus (simp only[gG,a0D];omega));(focus (simp only[gG,List.getD_cons_zero,List.getD_cons_succ,a0D];split<;>omega));(focus (simp only[gG,List.getD_cons_zero,List.getD_cons_succ,a0D];split<;>omega));simp only[gG,List.getD_cons_zero,List.getD_cons_succ,List.cons_append,List.nil_append,a0D])
    |((with_reducible refine a0C ?_);simp only[gG,a7q,allG1,allGG,a5U,List.getD_cons_zero,List.getD_cons_succ,List.append_nil,a0D,b2b,a1b,a1v])
    |((with_reducible refine a0c ?_);simp only[gG,a7q,allG1,allGG,b2A,List.getD_cons_zero,List.getD_cons_succ,List.append_nil,b2b]))
   all_goals first
    |(intro v1;exact⟨v1,out,rfl,Nat.le_trans h2 h1,h3⟩)
    |exact⟨_,_,rfl,Nat.zero_le _,a7V⟩
    |(refine⟨e3F (i:=i) (k:=0) (by omega) (by omega) (by first|exact Nat.zero_le _|exact h2) (by first|exact a7V|exact h3) (Nat.zero_le _) a7V d4F, ?_⟩;simp[d4U,G.int])
  ·obtain⟨i,k,b,b1,out,ab,nm,n1,n2,n3,n4,n5,n6,n7,n8,n9,A,h1,h2,h3,h4,h5,h6,h7,rfl⟩:=c5Z.mp hi;show wp (Cs []) d4V _ _;unfold d4V;clear hi hty;have hA:=c6u (g:=A)
   repeat' (first
    |((with_reducible refine a3d ?_ ?_)<;>(simp only[List.getD_cons_zero,List.getD_cons_succ,a2w];intro _))
    |((with_reducible refine a0w ?_ ?_)<;>(simp only[gG,List.getD_cons_zero,List.getD_cons_succ,a0D];intro _))
    |((with_reducible refine a1Z ?_);simp only[gG,List.getD_cons_zero,List.getD_cons_succ,List.cons_append,List.nil_append])
    |((with_reducible refine a4V ?_);simp only[gG,Cs,List.getD_cons_zero,List.getD_cons_succ,List.getD_nil,List.cons_append,List.nil_append,List.append_nil,a0D,a1R,a2w,a6y,b2b,a2Y,a2Q,a1b,a1v,a0z,List.length_cons,List.length_nil,List.map_cons,List.map_nil,a8V,a8U,List.tail_cons,Int.toNat_natCast,Nat.zero_add,Nat.reduceAdd,a0l])
    |((with_reducible refine d2H ?_);simp only[gG,List.getD_cons_zero,List.getD_cons_succ,List.cons_append,List.nil_append,a0D])
    |((with_reducible refine a1F ?_);simp only[gG,List.getD_cons_zero,List.getD_cons_succ,List.cons_append,List.nil_append,a0D])
    |((with_reducible refine a3z ?_ ?_ ?_);(focus (simp only[gG,List.getD_cons_zero,List.getD_cons_succ,a0D];omega));(focus (simp only[gG,List.getD_cons_zero,List.getD_cons_succ,a0D];omega));simp only[c1n,gG,List.getD_cons_zero,List.getD_cons_succ,List.cons_append,List.nil_append,a0D,a0z,a8V,a8U,Nat.zero_add,Nat.reduceAdd])
    |((with_reducible refine d5o ?_ ?_ ?_ ?_);(focus (simp only[a0l];omega));(focus (simp only[gG,List.getD_cons_zero,List.getD_cons_succ,a0D,a0l];have:=c6u (g:=((b9g A k).getD 8 .d));have:=c6u (g:=((b9g A k).getD 9 .d));split<;>omega));(focus (simp only[gG,List.getD_cons_zero,List.getD_cons_succ,a0D,a0l];split<;>omega));simp only[gG,List.getD_cons_zero,List.getD_cons_succ,List.cons_append,List.nil_append,a0D,List.length_cons,List.length_nil,Nat.zero_add,a0l])
    |((with_reducible refine a0C ?_);simp only[gG,a7q,allG1,allGG,a5U,List.getD_cons_zero,List.getD_cons_succ,List.nil_append,List.append_nil,a0D,b2b,a1b,a1v])
    |((with_reducible refine a0c ?_);simp only[gG,a7q,allG1,allGG,b2B,c5r,a5U,b2A,List.getD_cons_zero,List.getD_cons_succ,List.getD_nil,List.cons_append,List.nil_append,List.append_nil,a0D,a1R,a2w,a6y,b2b,a2Y,a2Q,a1b,a1v,a0z,List.length_cons,List.length_nil,List.map_cons,List.map_nil,a8V,a8U,List.tail_cons,Int.toNat_natCast,Nat.zero_add,Nat.reduceAdd,a0l]))
   all_goals intros
   all_goals rw[a2i (by omega)]
   all_goals refine⟨?_, ?_⟩
   all_goals first
    |exact e3F (i:=i) (k:=k+1) (by omega) (by omega) (by first|exact h3|exact Nat.zero_le _) (by first|exact h4|exact a7V) (by first|exact c1g h5|exact c6K) (by first|exact b4h h6 ⟨b1K (m:=5) (by omega),b1K (m:=35) (by omega)⟩|exact c0L ⟨b1K (m:=5) (by omega),b1K (m:=35) (by omega)⟩) h7
    |exact e3G (i:=i+1) (by omega) (by first|exact c1g h3|exact c6K) (by first|exact b4h h4 ⟨h7,Nat.le_trans h5 h2,h6⟩|exact b4h h4 ⟨h7,Nat.zero_le _,a7V⟩|exact c0L ⟨h7,Nat.le_trans h5 h2,h6⟩|exact c0L ⟨h7,Nat.zero_le _,a7V⟩)
    |(simp only[d4U,List.getD_cons_succ,List.getD_cons_zero,a0D,Int.toNat_natCast];omega)
 ·intro q hq;cases hq
def e4X:Vt:=(.goto 1001001 [] [(gY 0)])
def c0b:Sig:=⟨[(.l a1T)],[(7,(.d 0))],[]⟩
def c0a:Vt:=(.call 10 [(.sym 1)]
(.call 11 [(.sym 1)]
(.call 8 [(.sym 1)]
(.call 9 [(.sym 1)]
(.eql (vI 6) (vI 7)
(.eqs (.sym 2) (.sym 4)
(.eql (vI 3) (vI 5)
(.call 12 []
(.ret [(gY 8)]))
(.ret [(.v (.bool false))]))
(.ret [(.v (.bool false))]))
(.ret [(.v (.bool false))]))))))
def c0c:MdE:=⟨1,1,0,[(.sym 0)],c0b,c0a⟩
def la:FnV:=⟨[(.d (.l a1T))],[(.d .b)],[],[(1,1)],e4X,[],[(1001001,c0c)]⟩
def d8N(f:FuncId):Ct:=⟨f,[.d (.l a1T)],[.d .s,.d (.i .i64)],fun gs=>smallP (gs.getD 0 .d).es,fun gs=>encR (gs.getD 0 .d).es⟩
def e3Q:Ct:=⟨12,[],[.d .b],fun _=>True,fun _=>[.b true]⟩
def e4k:Cf:=⟨7,[.d (.l a1T)],[.d (.l a1T)],fun _=>True,fun _ us=> ∃v es,us= [.l v es]∧smallP es⟩
theorem d7r(es:List (List G)):TyOK (.i .i64) (.i .i64 (a3y es)):=by show IntKind.i64=IntKind.i64∧_;refine⟨rfl, ?_⟩;show(-9223372036854775808:Int)≤_∧_≤(9223372036854775807:Int);rcases c7s es with h|h|h|h|h<;>rw[h]<;>decide
theorem d7c{f:FuncId}(h: ∀{w:World} (v:Value) (es:List (List G)),smallP es→TyL [.l a1T] [.l v es]→GML w [.l v es]→Calls Try.prog f ⟨a3e [.d (.l a1T)] [.l v es]⟩ w fun e w'=> ∃gs,gs=encR es∧e= .returned (a8w [.d .s,.d (.i .i64)] gs)∧TyL [.s,.i .i64] gs∧GML (a0W w' []) gs∧Below w.heap.size w w'):CtOK Try.prog (d8N f):=by
 refine⟨rfl,fun gs ht hp=> ?_,fun w gs ht hm hp=> ?_⟩
 ·have hp':smallP (gs.getD 0 .d).es:=hp;show TyL [.s,.i .i64] (encR (gs.getD 0 .d).es);unfold encR;split
  ·have h1:=c8u hp' (gs.getD 0 .d).es.length;rw[List.take_of_length_le (Nat.le_refl _)]at h1
   have h2:(a7p (gs.getD 0 .d).es).size≤9223372036854775807:=by have:=hp'.1;unfold a7p;omega
   refine⟨?_,⟨rfl,by decide,by decide⟩,trivial⟩;show((a7p (gs.getD 0 .d).es).size:Int)≤9223372036854775807;exact Int.ofNat_le.2 h2
  ·refine⟨?_,d7r _,trivial⟩;show((0:Nat):Int)≤9223372036854775807;decide
 ·obtain⟨g,l,rfl,t,h0⟩:=tyC ht;obtain⟨v,es,rfl,e1,e2⟩:=b3l t;obtain rfl:=tyN h0;refine(h v es hp ht hm).mono ?_;rintro e w' ⟨gs,rfl,he,_,_,hb⟩;exact⟨he,hb⟩
def C13:List Ct:=[b8y 35,cNo,b9h 54,cNo,a7B 17,cNo,cAb 19,cNo,d4u 10,cNo,d8N 8,cNo,cNo]
theorem d8t: ∀c∈C13,CtOK Try.prog c:=by
 intro c hc;rw[show C13=C10++ [d8N 8,cNo,cNo]from rfl,List.mem_append]at hc;rcases hc with hc|hc
 ·exact c8T c hc
 ·simp only[List.mem_cons,List.not_mem_nil,or_false]at hc;rcases hc with rfl|rfl|rfl
  ·exact d7c fun v es hs ht hm=>a6G v es hs ht hm
  ·exact b0g
  ·exact b0g
theorem D1_ok: ∀c∈ [e4k],CfOK Try.prog c:=by
 intro c hc;rw[List.mem_singleton.1 hc];refine⟨fun t ht=> ?_,fun w gs L hL ht hm hp=> ?_⟩
 ·rw[List.mem_singleton.1 ht];rfl
 ·obtain⟨g,l,rfl,t,h0⟩:=tyC ht;obtain⟨v,es,rfl,e1,e2⟩:=b3l t;obtain rfl:=tyN h0;exact b8V v es hL ht hm
end
end Go.Proofs.Ytmmmknhdigapkaa.poolS
