/-
  Chapter 06: trees of what lays a pool; contracts.
-/
import Derived.Test.YtmmmknhdigapkaaTxG
import Derived.Test.YtmmmknhdigapkaaEvTq
import Derived.Test.YtmmmknhdigapkaaTxA
import Derived.Test.YtmmmknhdigapkaaTxD
namespace Go.Proofs.Ytmmmknhdigapkaa.poolLays
open Go.Ev Go.RowKit
set_option linter.unusedVariables false
noncomputable section
def c3I:List Ty:=[(.i .i64),(.i .i64),(.i .i64)]
theorem b4q:c3I.length=3:=rfl
def c3H:List Ty:=[(.i .i64)]
theorem c7c:c3H.length=1:=rfl
def b1k:List Ty:=[(.i .i64),(.i .i64),(.i .i64),(.i .i64),(.i .i64),(.i .i64),(.i .i64),.b,(.l c3H),(.l c3I),(.i .i64),(.i .i64),(.i .i64)]
theorem b4p:b1k.length=13:=rfl
def a5f:List Ty:=[.s,(.i .i64),(.i .i64),(.i .i64),(.i .i64),(.i .i64),(.i .i64),(.i .i64),(.i .i64),(.i .i64),(.l b1k)]
theorem b0s:a5f.length=11:=rfl
def e3g:List Ty:=[(.l a5f),(.w a5f),.b,(.i .i64)]
def e3f:List Ty:=[(.l a5f),.s,(.i .i64),(.i .i64),(.i .i64),(.i .i64),(.i .i64),(.i .i64),(.i .i64),(.i .i64),(.i .i64),(.l b1k),(.w b1k),.b,(.i .i64),(.i .i64),(.w a5f),.b]
def e3e:List Ty:=[.s,(.l c3H),(.i .i64),(.i .i64)]
def e3d:List Ty:=[.s,(.l c3H),(.i .i64)]
def e3c:List Ty:=[.s,(.l c3I),(.i .i64),(.i .i64),(.i .i64),(.i .i64),(.i .i64),(.i .i64),(.i .i64),(.i .i64),(.l c3H),(.i .i64),(.i .i64),(.i .i64),.b,(.i .i64)]
def e3b:List Ty:=[.s,(.i .i64),(.i .i64),(.i .i64),(.i .i64),(.i .i64),(.i .i64),(.i .i64),(.l c3H),(.l c3I),(.i .i64),(.i .i64),(.i .i64),.b,(.i .i64)]
def e0I:List Ty:=[.s,(.l a5f),(.i .i64),(.i .i64)]
def e0H:List Ty:=[.s,(.l a5f),(.i .i64),(.l b1k),(.i .i64),(.i .i64),(.i .i64)]
def e0G:List Ty:=[(.l a5f),.s,(.i .i64)]
def e0F:List Ty:=[(.l a5f),.s,.s,(.i .i64),(.i .i64),(.i .i64),(.i .i64),(.i .i64),(.i .i64),(.i .i64),(.i .i64),(.i .i64),(.l b1k),(.i .i64),(.i .i64)]
def e1A:Vt:=(.goto 0 [none] [(.v (.sym 0)),(.ow (.slice none 0 0) none []),(.v (.bool true)),(.v (.int .i64 (0)))])
def d6G:Sig:=⟨e3g,[(0,(.d 0)),(3,(.own 0 1 2)),(4,(.d 3))],[(.lst 1 2 a5f (some 40) 42)]⟩
def d2X:Vt:=(.fb 2
(.len (.sym 0)
(.lss (.sint .i64 3) (.sint .i64 4)
(.lss (.sint .i64 3) (.int .i64 (42))
(.elt (.sym 0) (.sint .i64 3) a5f
(.slen (.sym 5)
(.mn .i64 (.sint .i64 16) (.int .i64 (40))
(.sub (.sym 5) (.int .i64 (0)) (.sint .i64 17)
(.goto 1 [(some 1),none,none] [(.v (.sym 0)),(.v (.sym 18)),(.v (.sint .i64 6)),(.v (.sint .i64 7)),(.v (.sint .i64 8)),(.v (.sint .i64 9)),(.v (.sint .i64 10)),(.v (.sint .i64 11)),(.v (.sint .i64 12)),(.v (.sint .i64 13)),(.v (.sint .i64 14)),(.v (.sym 15)),(.ow (.slice none 0 0) none []),(.v (.bool true)),(.v (.int .i64 (0))),(.v (.sint .i64 3)),(.ow (.slice none 0 0) none []),(.v (.bool true))])))))
(.ret [(.v (.slice none 0 0))]))
(.ret [(.v (.slice none 0 0))])))
(.len (.sym 0)
(.lss (.sint .i64 3) (.sint .i64 4)
(.lss (.sint .i64 3) (.int .i64 (42))
(.elt (.sym 0) (.sint .i64 3) a5f
(.slen (.sym 5)
(.mn .i64 (.sint .i64 16) (.int .i64 (40))
(.sub (.sym 5) (.int .i64 (0)) (.sint .i64 17)
(.goto 1 [(some 1),none,(some 0)] [(.v (.sym 0)),(.v (.sym 18)),(.v (.sint .i64 6)),(.v (.sint .i64 7)),(.v (.sint .i64 8)),(.v (.sint .i64 9)),(.v (.sint .i64 10)),(.v (.sint .i64 11)),(.v (.sint .i64 12)),(.v (.sint .i64 13)),(.v (.sint .i64 14)),(.v (.sym 15)),(.ow (.slice none 0 0) none []),(.v (.bool true)),(.v (.int .i64 (0))),(.v (.sint .i64 3)),(.ow (.lsl 0 1 0) (some 1) []),(.v (.bool false))])))))
(.ret [(.app (.lsl 0 1 0) 1 [])]))
(.ret [(.app (.lsl 0 1 0) 1 [])]))))
def d6F:Sig:=⟨e3f,[(0,(.d 0)),(3,(.own 2 16 17)),(4,(.d 15)),(5,(.p 0 0)),(6,(.own 1 12 13)),(7,(.d 14))],[(.cells [(.d 1),(.d 2),(.d 3),(.d 4),(.d 5),(.d 6),(.d 7),(.d 8),(.d 9),(.d 10),(.d 11)] none 0 (some 40)),(.lst 12 13 b1k (some 46) 42),(.lst 16 17 a5f (some 40) 42)]⟩
def d2W:Vt:=(.fb 13
(.fb 17
(.len (.sym 11)
(.lss (.sint .i64 14) (.sint .i64 18)
(.lss (.sint .i64 14) (.int .i64 (5))
(.elt (.sym 11) (.sint .i64 14) b1k
(.len (.sym 27)
(.mn .i64 (.sint .i64 32) (.int .i64 (5))
(.cut [(.i .i64)] (.sym 27) none (some (.sint .i64 33))
(.len (.sym 28)
(.mn .i64 (.sint .i64 35) (.int .i64 (35))
(.cut c3I (.sym 28) none (some (.sint .i64 36))
(.bin .add .i64 (.sint .i64 14) (.int .i64 (1))
(.goto 1 [(some 0),(some 5),none] [(.v (.sym 0)),(.v (.sym 1)),(.v (.sint .i64 2)),(.v (.sint .i64 3)),(.v (.sint .i64 4)),(.v (.sint .i64 5)),(.v (.sint .i64 6)),(.v (.sint .i64 7)),(.v (.sint .i64 8)),(.v (.sint .i64 9)),(.v (.sint .i64 10)),(.v (.sym 11)),(.ow (.slice (some ⟨(.loc 5),0⟩) 1 1) none [[(.v (.sint .i64 19)),(.v (.sint .i64 20)),(.v (.sint .i64 21)),(.v (.sint .i64 22)),(.v (.sint .i64 23)),(.v (.sint .i64 24)),(.v (.sint .i64 25)),(.v (.sym 26)),(.v (.sym 34)),(.v (.sym 37)),(.v (.sint .i64 29)),(.v (.sint .i64 30)),(.v (.sint .i64 31))]]),(.v (.bool false)),(.v (.sint .i64 38)),(.v (.sint .i64 15)),(.ow (.slice none 0 0) none []),(.v (.bool true))])))))))))
(.bin .add .i64 (.sint .i64 15) (.int .i64 (1))
(.goto 0 [(some 4)] [(.v (.sym 0)),(.ow (.slice (some ⟨(.loc 4),0⟩) 1 1) none [[(.v (.sym 1)),(.v (.sint .i64 2)),(.v (.sint .i64 3)),(.v (.sint .i64 4)),(.v (.sint .i64 5)),(.v (.sint .i64 6)),(.v (.sint .i64 7)),(.v (.sint .i64 8)),(.v (.sint .i64 9)),(.v (.sint .i64 10)),(.v (.slice none 0 0))]]),(.v (.bool false)),(.v (.sint .i64 19))])))
(.bin .add .i64 (.sint .i64 15) (.int .i64 (1))
(.goto 0 [(some 4)] [(.v (.sym 0)),(.ow (.slice (some ⟨(.loc 4),0⟩) 1 1) none [[(.v (.sym 1)),(.v (.sint .i64 2)),(.v (.sint .i64 3)),(.v (.sint .i64 4)),(.v (.sint .i64 5)),(.v (.sint .i64 6)),(.v (.sint .i64 7)),(.v (.sint .i64 8)),(.v (.sint .i64 9)),(.v (.sint .i64 10)),(.v (.slice none 0 0))]]),(.v (.bool false)),(.v (.sint .i64 19))]))))
(.len (.sym 11)
(.lss (.sint .i64 14) (.sint .i64 18)
(.lss (.sint .i64 14) (.int .i64 (5))
(.elt (.sym 11) (.sint .i64 14) b1k
(.len (.sym 27)
(.mn .i64 (.sint .i64 32) (.int .i64 (5))
(.cut [(.i .i64)] (.sym 27) none (some (.sint .i64 33))
(.len (.sym 28)
(.mn .i64 (.sint .i64 35) (.int .i64 (35))
(.cut c3I (.sym 28) none (some (.sint .i64 36))
(.bin .add .i64 (.sint .i64 14) (.int .i64 (1))
(.goto 1 [(some 0),(some 5),(some 2)] [(.v (.sym 0)),(.v (.sym 1)),(.v (.sint .i64 2)),(.v (.sint .i64 3)),(.v (.sint .i64 4)),(.v (.sint .i64 5)),(.v (.sint .i64 6)),(.v (.sint .i64 7)),(.v (.sint .i64 8)),(.v (.sint .i64 9)),(.v (.sint .i64 10)),(.v (.sym 11)),(.ow (.slice (some ⟨(.loc 5),0⟩) 1 1) none [[(.v (.sint .i64 19)),(.v (.sint .i64 20)),(.v (.sint .i64 21)),(.v (.sint .i64 22)),(.v (.sint .i64 23)),(.v (.sint .i64 24)),(.v (.sint .i64 25)),(.v (.sym 26)),(.v (.sym 34)),(.v (.sym 37)),(.v (.sint .i64 29)),(.v (.sint .i64 30)),(.v (.sint .i64 31))]]),(.v (.bool false)),(.v (.sint .i64 38)),(.v (.sint .i64 15)),(.ow (.lsl 2 16 0) (some 16) []),(.v (.bool false))])))))))))
(.bin .add .i64 (.sint .i64 15) (.int .i64 (1))
(.goto 0 [(some 4)] [(.v (.sym 0)),(.ow (.lsl 4 16 1) (some 16) [[(.v (.sym 1)),(.v (.sint .i64 2)),(.v (.sint .i64 3)),(.v (.sint .i64 4)),(.v (.sint .i64 5)),(.v (.sint .i64 6)),(.v (.sint .i64 7)),(.v (.sint .i64 8)),(.v (.sint .i64 9)),(.v (.sint .i64 10)),(.v (.slice none 0 0))]]),(.v (.bool false)),(.v (.sint .i64 19))])))
(.bin .add .i64 (.sint .i64 15) (.int .i64 (1))
(.goto 0 [(some 4)] [(.v (.sym 0)),(.ow (.lsl 4 16 1) (some 16) [[(.v (.sym 1)),(.v (.sint .i64 2)),(.v (.sint .i64 3)),(.v (.sint .i64 4)),(.v (.sint .i64 5)),(.v (.sint .i64 6)),(.v (.sint .i64 7)),(.v (.sint .i64 8)),(.v (.sint .i64 9)),(.v (.sint .i64 10)),(.v (.slice none 0 0))]]),(.v (.bool false)),(.v (.sint .i64 19))])))))
(.fb 17
(.len (.sym 11)
(.lss (.sint .i64 14) (.sint .i64 18)
(.lss (.sint .i64 14) (.int .i64 (5))
(.elt (.sym 11) (.sint .i64 14) b1k
(.len (.sym 27)
(.mn .i64 (.sint .i64 32) (.int .i64 (5))
(.cut [(.i .i64)] (.sym 27) none (some (.sint .i64 33))
(.len (.sym 28)
(.mn .i64 (.sint .i64 35) (.int .i64 (35))
(.cut c3I (.sym 28) none (some (.sint .i64 36))
(.bin .add .i64 (.sint .i64 14) (.int .i64 (1))
(.goto 1 [(some 0),(some 5),none] [(.v (.sym 0)),(.v (.sym 1)),(.v (.sint .i64 2)),(.v (.sint .i64 3)),(.v (.sint .i64 4)),(.v (.sint .i64 5)),(.v (.sint .i64 6)),(.v (.sint .i64 7)),(.v (.sint .i64 8)),(.v (.sint .i64 9)),(.v (.sint .i64 10)),(.v (.sym 11)),(.ow (.lsl 5 12 1) (some 12) [[(.v (.sint .i64 19)),(.v (.sint .i64 20)),(.v (.sint .i64 21)),(.v (.sint .i64 22)),(.v (.sint .i64 23)),(.v (.sint .i64 24)),(.v (.sint .i64 25)),(.v (.sym 26)),(.v (.sym 34)),(.v (.sym 37)),(.v (.sint .i64 29)),(.v (.sint .i64 30)),(.v (.sint .i64 31))]]),(.v (.bool false)),(.v (.sint .i64 38)),(.v (.sint .i64 15)),(.ow (.slice none 0 0) none []),(.v (.bool true))])))))))))
(.bin .add .i64 (.sint .i64 15) (.int .i64 (1))
(.goto 0 [(some 4)] [(.v (.sym 0)),(.ow (.slice (some ⟨(.loc 4),0⟩) 1 1) none [[(.v (.sym 1)),(.v (.sint .i64 2)),(.v (.sint .i64 3)),(.v (.sint .i64 4)),(.v (.sint .i64 5)),(.v (.sint .i64 6)),(.v (.sint .i64 7)),(.v (.sint .i64 8)),(.v (.sint .i64 9)),(.v (.sint .i64 10)),(.app (.lsl 1 12 0) 12 [])]]),(.v (.bool false)),(.v (.sint .i64 19))])))
(.bin .add .i64 (.sint .i64 15) (.int .i64 (1))
(.goto 0 [(some 4)] [(.v (.sym 0)),(.ow (.slice (some ⟨(.loc 4),0⟩) 1 1) none [[(.v (.sym 1)),(.v (.sint .i64 2)),(.v (.sint .i64 3)),(.v (.sint .i64 4)),(.v (.sint .i64 5)),(.v (.sint .i64 6)),(.v (.sint .i64 7)),(.v (.sint .i64 8)),(.v (.sint .i64 9)),(.v (.sint .i64 10)),(.app (.lsl 1 12 0) 12 [])]]),(.v (.bool false)),(.v (.sint .i64 19))]))))
(.len (.sym 11)
(.lss (.sint .i64 14) (.sint .i64 18)
(.lss (.sint .i64 14) (.int .i64 (5))
(.elt (.sym 11) (.sint .i64 14) b1k
(.len (.sym 27)
(.mn .i64 (.sint .i64 32) (.int .i64 (5))
(.cut [(.i .i64)] (.sym 27) none (some (.sint .i64 33))
(.len (.sym 28)
(.mn .i64 (.sint .i64 35) (.int .i64 (35))
(.cut c3I (.sym 28) none (some (.sint .i64 36))
(.bin .add .i64 (.sint .i64 14) (.int .i64 (1))
(.goto 1 [(some 0),(some 5),(some 2)] [(.v (.sym 0)),(.v (.sym 1)),(.v (.sint .i64 2)),(.v (.sint .i64 3)),(.v (.sint .i64 4)),(.v (.sint .i64 5)),(.v (.sint .i64 6)),(.v (.sint .i64 7)),(.v (.sint .i64 8)),(.v (.sint .i64 9)),(.v (.sint .i64 10)),(.v (.sym 11)),(.ow (.lsl 5 12 1) (some 12) [[(.v (.sint .i64 19)),(.v (.sint .i64 20)),(.v (.sint .i64 21)),(.v (.sint .i64 22)),(.v (.sint .i64 23)),(.v (.sint .i64 24)),(.v (.sint .i64 25)),(.v (.sym 26)),(.v (.sym 34)),(.v (.sym 37)),(.v (.sint .i64 29)),(.v (.sint .i64 30)),(.v (.sint .i64 31))]]),(.v (.bool false)),(.v (.sint .i64 38)),(.v (.sint .i64 15)),(.ow (.lsl 2 16 0) (some 16) []),(.v (.bool false))])))))))))
(.bin .add .i64 (.sint .i64 15) (.int .i64 (1))
(.goto 0 [(some 4)] [(.v (.sym 0)),(.ow (.lsl 4 16 1) (some 16) [[(.v (.sym 1)),(.v (.sint .i64 2)),(.v (.sint .i64 3)),(.v (.sint .i64 4)),(.v (.sint .i64 5)),(.v (.sint .i64 6)),(.v (.sint .i64 7)),(.v (.sint .i64 8)),(.v (.sint .i64 9)),(.v (.sint .i64 10)),(.app (.lsl 1 12 0) 12 [])]]),(.v (.bool false)),(.v (.sint .i64 19))])))
(.bin .add .i64 (.sint .i64 15) (.int .i64 (1))
(.goto 0 [(some 4)] [(.v (.sym 0)),(.ow (.lsl 4 16 1) (some 16) [[(.v (.sym 1)),(.v (.sint .i64 2)),(.v (.sint .i64 3)),(.v (.sint .i64 4)),(.v (.sint .i64 5)),(.v (.sint .i64 6)),(.v (.sint .i64 7)),(.v (.sint .i64 8)),(.v (.sint .i64 9)),(.v (.sint .i64 10)),(.app (.lsl 1 12 0) 12 [])]]),(.v (.bool false)),(.v (.sint .i64 19))]))))))
def cu:FnV:=⟨[(.d (.l a5f))],[(.d (.l a5f))],[0,1],[],e1A,[(0,d6G,d2X),(1,d6F,d2W)],[]⟩
def e2R:Vt:=(.len (.sym 1)
(.goto 0 [] [(.v (.sym 0)),(.v (.sym 1)),(.v (.sint .i64 2)),(.v (.int .i64 (0)))]))
def d5h:Sig:=⟨e3e,[(0,(.d 0)),(7,(.d 1)),(8,(.d 2)),(9,(.d 3))],[]⟩
def d5g:Vt:=(.lss (.sint .i64 3) (.sint .i64 2)
(.elt (.sym 1) (.sint .i64 3) [(.i .i64)]
(.conv .u64 (.sint .i64 4)
(.call 0 [(.sym 0),(.sint .u64 5)]
(.bin .add .i64 (.sint .i64 3) (.int .i64 (1))
(.goto 0 [] [(.v (.sym 6)),(.v (.sym 1)),(.v (.sint .i64 2)),(.v (.sint .i64 7))])))))
(.ret [(.v (.sym 0))]))
def nu:FnV:=⟨[(.d .s),(.d (.l c3H))],[(.d .s)],[0],[],e2R,[(0,d5h,d5g)],[]⟩
def e2O:Vt:=(.goto 0 [] [(.v (.sym 0)),(.v (.sym 1)),(.v (.int .i64 (0)))])
def d5F:Sig:=⟨e3d,[(0,(.d 0)),(1,(.d 1)),(5,(.d 2))],[]⟩
def d5E:Vt:=(.len (.sym 1)
(.lss (.sint .i64 2) (.sint .i64 3)
(.elt (.sym 1) (.sint .i64 2) [(.i .i64)]
(.conv .u64 (.sint .i64 4)
(.call 1 [(.sym 0),(.sint .u64 5)]
(.bin .add .i64 (.sint .i64 2) (.int .i64 (1))
(.goto 0 [] [(.v (.sym 6)),(.v (.sym 1)),(.v (.sint .i64 7))])))))
(.ret [(.v (.sym 0))])))
def rn:FnV:=⟨[(.d .s),(.d (.l c3H))],[(.d .s)],[0],[],e2O,[(0,d5F,d5E)],[]⟩
def e0R:Vt:=(.fb 8
(.len (.sym 9)
(.conv .u64 (.sint .i64 1)
(.call 0 [(.sym 0),(.sint .u64 15)]
(.conv .u64 (.sint .i64 2)
(.call 0 [(.sym 16),(.sint .u64 17)]
(.conv .u64 (.sint .i64 3)
(.call 0 [(.sym 18),(.sint .u64 19)]
(.conv .u64 (.sint .i64 4)
(.call 0 [(.sym 20),(.sint .u64 21)]
(.conv .u64 (.sint .i64 5)
(.call 0 [(.sym 22),(.sint .u64 23)]
(.conv .u64 (.sint .i64 6)
(.call 0 [(.sym 24),(.sint .u64 25)]
(.conv .u64 (.sint .i64 7)
(.call 0 [(.sym 26),(.sint .u64 27)]
(.call 0 [(.sym 28),(.int .u64 (1))]
(.conv .u64 (.sint .i64 14)
(.call 0 [(.sym 29),(.sint .u64 30)]
(.len (.sym 10)
(.call 4 [(.sym 31),(.sym 9)]
(.conv .u64 (.sint .i64 32)
(.call 0 [(.sym 33),(.sint .u64 34)]
(.goto 0 [(some 0)] [(.v (.sym 35)),(.v (.sym 10)),(.v (.sint .i64 32)),(.v (.sint .i64 1)),(.v (.sint .i64 2)),(.v (.sint .i64 3)),(.v (.sint .i64 4)),(.v (.sint .i64 5)),(.v (.sint .i64 6)),(.v (.sint .i64 7)),(.v (.sym 9)),(.v (.sint .i64 11)),(.v (.sint .i64 12)),(.v (.sint .i64 13)),(.v (.bool true)),(.v (.int .i64 (0)))])))))))))))))))))))))))
(.len (.sym 9)
(.conv .u64 (.sint .i64 1)
(.call 0 [(.sym 0),(.sint .u64 15)]
(.conv .u64 (.sint .i64 2)
(.call 0 [(.sym 16),(.sint .u64 17)]
(.conv .u64 (.sint .i64 3)
(.call 0 [(.sym 18),(.sint .u64 19)]
(.conv .u64 (.sint .i64 4)
(.call 0 [(.sym 20),(.sint .u64 21)]
(.conv .u64 (.sint .i64 5)
(.call 0 [(.sym 22),(.sint .u64 23)]
(.conv .u64 (.sint .i64 6)
(.call 0 [(.sym 24),(.sint .u64 25)]
(.conv .u64 (.sint .i64 7)
(.call 0 [(.sym 26),(.sint .u64 27)]
(.call 0 [(.sym 28),(.int .u64 (0))]
(.conv .u64 (.sint .i64 14)
(.call 0 [(.sym 29),(.sint .u64 30)]
(.len (.sym 10)
(.call 4 [(.sym 31),(.sym 9)]
(.conv .u64 (.sint .i64 32)
(.call 0 [(.sym 33),(.sint .u64 34)]
(.goto 0 [(some 0)] [(.v (.sym 35)),(.v (.sym 10)),(.v (.sint .i64 32)),(.v (.sint .i64 1)),(.v (.sint .i64 2)),(.v (.sint .i64 3)),(.v (.sint .i64 4)),(.v (.sint .i64 5)),(.v (.sint .i64 6)),(.v (.sint .i64 7)),(.v (.sym 9)),(.v (.sint .i64 11)),(.v (.sint .i64 12)),(.v (.sint .i64 13)),(.v (.bool false)),(.v (.int .i64 (0)))]))))))))))))))))))))))))
def d1b:Sig:=⟨e3c,[(0,(.d 0)),(3,(.p 0 0)),(45,(.d 1)),(46,(.d 2)),(47,(.d 15))],[(.cells [(.d 3),(.d 4),(.d 5),(.d 6),(.d 7),(.d 8),(.d 9),(.d 14),(.d 10),(.d 1),(.d 11),(.d 12),(.d 13)] none 0 none)]⟩
def d1a:Vt:=(.lss (.sint .i64 15) (.sint .i64 2)
(.elt (.sym 1) (.sint .i64 15) c3I
(.conv .u64 (.sint .i64 16)
(.call 0 [(.sym 0),(.sint .u64 19)]
(.call 2 [(.sym 20),(.sint .i64 17)]
(.call 2 [(.sym 21),(.sint .i64 18)]
(.bin .add .i64 (.sint .i64 15) (.int .i64 (1))
(.goto 0 [(some 0)] [(.v (.sym 22)),(.v (.sym 1)),(.v (.sint .i64 2)),(.v (.sint .i64 3)),(.v (.sint .i64 4)),(.v (.sint .i64 5)),(.v (.sint .i64 6)),(.v (.sint .i64 7)),(.v (.sint .i64 8)),(.v (.sint .i64 9)),(.v (.sym 10)),(.v (.sint .i64 11)),(.v (.sint .i64 12)),(.v (.sint .i64 13)),(.v (.sym 14)),(.v (.sint .i64 23))])))))))
(.conv .u64 (.sint .i64 11)
(.call 0 [(.sym 0),(.sint .u64 16)]
(.call 2 [(.sym 17),(.sint .i64 12)]
(.call 2 [(.sym 18),(.sint .i64 13)]
(.ret [(.v (.sym 19))]))))))
def pa:FnV:=⟨[(.d .s),(.st b1k)],[(.d .s)],[0],[],e0R,[(0,d1b,d1a)],[]⟩
def e0E:Vt:=(.fb 8
(.len (.sym 9)
(.conv .u64 (.sint .i64 1)
(.call 1 [(.sym 0),(.sint .u64 15)]
(.conv .u64 (.sint .i64 2)
(.call 1 [(.sym 16),(.sint .u64 17)]
(.conv .u64 (.sint .i64 3)
(.call 1 [(.sym 18),(.sint .u64 19)]
(.conv .u64 (.sint .i64 4)
(.call 1 [(.sym 20),(.sint .u64 21)]
(.conv .u64 (.sint .i64 5)
(.call 1 [(.sym 22),(.sint .u64 23)]
(.conv .u64 (.sint .i64 6)
(.call 1 [(.sym 24),(.sint .u64 25)]
(.conv .u64 (.sint .i64 7)
(.call 1 [(.sym 26),(.sint .u64 27)]
(.call 1 [(.sym 28),(.int .u64 (1))]
(.conv .u64 (.sint .i64 14)
(.call 1 [(.sym 29),(.sint .u64 30)]
(.call 5 [(.sym 31),(.sym 9)]
(.len (.sym 10)
(.conv .u64 (.sint .i64 33)
(.call 1 [(.sym 32),(.sint .u64 34)]
(.goto 0 [(some 0)] [(.v (.sym 35)),(.v (.sint .i64 1)),(.v (.sint .i64 2)),(.v (.sint .i64 3)),(.v (.sint .i64 4)),(.v (.sint .i64 5)),(.v (.sint .i64 6)),(.v (.sint .i64 7)),(.v (.sym 9)),(.v (.sym 10)),(.v (.sint .i64 11)),(.v (.sint .i64 12)),(.v (.sint .i64 13)),(.v (.bool true)),(.v (.int .i64 (0)))])))))))))))))))))))))))
(.len (.sym 9)
(.conv .u64 (.sint .i64 1)
(.call 1 [(.sym 0),(.sint .u64 15)]
(.conv .u64 (.sint .i64 2)
(.call 1 [(.sym 16),(.sint .u64 17)]
(.conv .u64 (.sint .i64 3)
(.call 1 [(.sym 18),(.sint .u64 19)]
(.conv .u64 (.sint .i64 4)
(.call 1 [(.sym 20),(.sint .u64 21)]
(.conv .u64 (.sint .i64 5)
(.call 1 [(.sym 22),(.sint .u64 23)]
(.conv .u64 (.sint .i64 6)
(.call 1 [(.sym 24),(.sint .u64 25)]
(.conv .u64 (.sint .i64 7)
(.call 1 [(.sym 26),(.sint .u64 27)]
(.call 1 [(.sym 28),(.int .u64 (0))]
(.conv .u64 (.sint .i64 14)
(.call 1 [(.sym 29),(.sint .u64 30)]
(.call 5 [(.sym 31),(.sym 9)]
(.len (.sym 10)
(.conv .u64 (.sint .i64 33)
(.call 1 [(.sym 32),(.sint .u64 34)]
(.goto 0 [(some 0)] [(.v (.sym 35)),(.v (.sint .i64 1)),(.v (.sint .i64 2)),(.v (.sint .i64 3)),(.v (.sint .i64 4)),(.v (.sint .i64 5)),(.v (.sint .i64 6)),(.v (.sint .i64 7)),(.v (.sym 9)),(.v (.sym 10)),(.v (.sint .i64 11)),(.v (.sint .i64 12)),(.v (.sint .i64 13)),(.v (.bool false)),(.v (.int .i64 (0)))]))))))))))))))))))))))))
def d1P:Sig:=⟨e3b,[(0,(.d 0)),(3,(.p 0 0)),(6,(.d 14))],[(.cells [(.d 1),(.d 2),(.d 3),(.d 4),(.d 5),(.d 6),(.d 7),(.d 13),(.d 8),(.d 9),(.d 10),(.d 11),(.d 12)] none 0 none)]⟩
def d1O:Vt:=(.len (.sym 9)
(.lss (.sint .i64 14) (.sint .i64 15)
(.elt (.sym 9) (.sint .i64 14) c3I
(.conv .u64 (.sint .i64 16)
(.call 1 [(.sym 0),(.sint .u64 19)]
(.call 3 [(.sym 20),(.sint .i64 17)]
(.call 3 [(.sym 21),(.sint .i64 18)]
(.bin .add .i64 (.sint .i64 14) (.int .i64 (1))
(.goto 0 [(some 0)] [(.v (.sym 22)),(.v (.sint .i64 1)),(.v (.sint .i64 2)),(.v (.sint .i64 3)),(.v (.sint .i64 4)),(.v (.sint .i64 5)),(.v (.sint .i64 6)),(.v (.sint .i64 7)),(.v (.sym 8)),(.v (.sym 9)),(.v (.sint .i64 10)),(.v (.sint .i64 11)),(.v (.sint .i64 12)),(.v (.sym 13)),(.v (.sint .i64 23))])))))))
(.conv .u64 (.sint .i64 10)
(.call 1 [(.sym 0),(.sint .u64 16)]
(.call 3 [(.sym 17),(.sint .i64 11)]
(.call 3 [(.sym 18),(.sint .i64 12)]
(.ret [(.v (.sym 19))])))))))
def ra:FnV:=⟨[(.d .s),(.st b1k)],[(.d .s)],[0],[],e0E,[(0,d1P,d1O)],[]⟩
def e0v:Vt:=(.call 8 [(.sym 0)]
(.eql (.sint .i64 1) (.int .i64 (0))
(.len (.sym 0)
(.conv .u64 (.sint .i64 2)
(.call 0 [(.string ⟨#[]⟩),(.sint .u64 3)]
(.goto 0 [] [(.v (.sym 4)),(.v (.sym 0)),(.v (.sint .i64 2)),(.v (.int .i64 (0)))]))))
(.ret [(.v (.string ⟨#[]⟩)),(.v (.sint .i64 1))])))
def d6D:Sig:=⟨e0I,[(5,(.d 0)),(19,(.d 1)),(20,(.d 2)),(21,(.d 3))],[]⟩
def d2Q:Vt:=(.lss (.sint .i64 3) (.sint .i64 2)
(.elt (.sym 1) (.sint .i64 3) a5f
(.slen (.sym 4)
(.conv .u64 (.sint .i64 15)
(.call 0 [(.sym 0),(.sint .u64 16)]
(.cat (.sym 17) (.sym 4)
(.len (.sym 14)
(.conv .u64 (.sint .i64 5)
(.call 0 [(.sym 18),(.sint .u64 20)]
(.conv .u64 (.sint .i64 6)
(.call 0 [(.sym 21),(.sint .u64 22)]
(.conv .u64 (.sint .i64 7)
(.call 0 [(.sym 23),(.sint .u64 24)]
(.conv .u64 (.sint .i64 8)
(.call 0 [(.sym 25),(.sint .u64 26)]
(.conv .u64 (.sint .i64 9)
(.call 0 [(.sym 27),(.sint .u64 28)]
(.conv .u64 (.sint .i64 10)
(.call 0 [(.sym 29),(.sint .u64 30)]
(.conv .u64 (.sint .i64 11)
(.call 0 [(.sym 31),(.sint .u64 32)]
(.conv .u64 (.sint .i64 12)
(.call 0 [(.sym 33),(.sint .u64 34)]
(.conv .u64 (.sint .i64 13)
(.call 0 [(.sym 35),(.sint .u64 36)]
(.conv .u64 (.sint .i64 19)
(.call 0 [(.sym 37),(.sint .u64 38)]
(.goto 1 [] [(.v (.sym 39)),(.v (.sym 1)),(.v (.sint .i64 2)),(.v (.sym 14)),(.v (.sint .i64 19)),(.v (.int .i64 (0))),(.v (.sint .i64 3))])))))))))))))))))))))))))))
(.ret [(.v (.sym 0)),(.v (.int .i64 (0)))]))
def d6C:Sig:=⟨e0H,[(5,(.d 0)),(19,(.d 1)),(20,(.d 2)),(21,(.d 6)),(58,(.d 3)),(59,(.d 4)),(60,(.d 5))],[]⟩
def d2P:Vt:=(.lss (.sint .i64 5) (.sint .i64 4)
(.elt (.sym 3) (.sint .i64 5) b1k
(.call 6 [(.sym 0),(.sint .i64 7),(.sint .i64 8),(.sint .i64 9),(.sint .i64 10),(.sint .i64 11),(.sint .i64 12),(.sint .i64 13),(.sym 14),(.sym 15),(.sym 16),(.sint .i64 17),(.sint .i64 18),(.sint .i64 19)]
(.bin .add .i64 (.sint .i64 5) (.int .i64 (1))
(.goto 1 [] [(.v (.sym 20)),(.v (.sym 1)),(.v (.sint .i64 2)),(.v (.sym 3)),(.v (.sint .i64 4)),(.v (.sint .i64 21)),(.v (.sint .i64 6))]))))
(.bin .add .i64 (.sint .i64 6) (.int .i64 (1))
(.goto 0 [] [(.v (.sym 0)),(.v (.sym 1)),(.v (.sint .i64 2)),(.v (.sint .i64 7))])))
def en:FnV:=⟨[(.d (.l a5f))],[(.d .s),(.d (.i .i64))],[0,1],[],e0v,[(0,d6D,d2Q),(1,d6C,d2P)],[]⟩
def e0B:Vt:=(.call 9 [(.sym 0)]
(.eql (.sint .i64 1) (.int .i64 (0))
(.len (.sym 0)
(.conv .u64 (.sint .i64 2)
(.call 1 [(.string ⟨#[]⟩),(.sint .u64 3)]
(.goto 0 [] [(.v (.sym 0)),(.v (.sym 4)),(.v (.int .i64 (0)))]))))
(.ret [(.v (.string ⟨#[]⟩)),(.v (.sint .i64 1))])))
def d5O:Sig:=⟨e0G,[(0,(.d 0)),(5,(.d 1)),(6,(.d 2))],[]⟩
def d1M:Vt:=(.len (.sym 0)
(.lss (.sint .i64 2) (.sint .i64 3)
(.elt (.sym 0) (.sint .i64 2) a5f
(.slen (.sym 4)
(.conv .u64 (.sint .i64 15)
(.call 1 [(.sym 1),(.sint .u64 16)]
(.cat (.sym 17) (.sym 4)
(.len (.sym 14)
(.conv .u64 (.sint .i64 5)
(.call 1 [(.sym 18),(.sint .u64 20)]
(.conv .u64 (.sint .i64 6)
(.call 1 [(.sym 21),(.sint .u64 22)]
(.conv .u64 (.sint .i64 7)
(.call 1 [(.sym 23),(.sint .u64 24)]
(.conv .u64 (.sint .i64 8)
(.call 1 [(.sym 25),(.sint .u64 26)]
(.conv .u64 (.sint .i64 9)
(.call 1 [(.sym 27),(.sint .u64 28)]
(.conv .u64 (.sint .i64 10)
(.call 1 [(.sym 29),(.sint .u64 30)]
(.conv .u64 (.sint .i64 11)
(.call 1 [(.sym 31),(.sint .u64 32)]
(.conv .u64 (.sint .i64 12)
(.call 1 [(.sym 33),(.sint .u64 34)]
(.conv .u64 (.sint .i64 13)
(.call 1 [(.sym 35),(.sint .u64 36)]
(.conv .u64 (.sint .i64 19)
(.call 1 [(.sym 37),(.sint .u64 38)]
(.goto 1 [(some 0)] [(.v (.sym 0)),(.v (.sym 39)),(.v (.sym 4)),(.v (.sint .i64 5)),(.v (.sint .i64 6)),(.v (.sint .i64 7)),(.v (.sint .i64 8)),(.v (.sint .i64 9)),(.v (.sint .i64 10)),(.v (.sint .i64 11)),(.v (.sint .i64 12)),(.v (.sint .i64 13)),(.v (.sym 14)),(.v (.int .i64 (0))),(.v (.sint .i64 2))])))))))))))))))))))))))))))
(.ret [(.v (.sym 1)),(.v (.int .i64 (0)))])))
def d5N:Sig:=⟨e0F,[(0,(.d 0)),(5,(.d 1)),(6,(.d 14)),(7,(.p 0 0)),(8,(.d 13))],[(.cells [(.d 2),(.d 3),(.d 4),(.d 5),(.d 6),(.d 7),(.d 8),(.d 9),(.d 10),(.d 11),(.d 12)] none 0 (some 40))]⟩
def d1L:Vt:=(.len (.sym 12)
(.lss (.sint .i64 13) (.sint .i64 15)
(.elt (.sym 12) (.sint .i64 13) b1k
(.call 7 [(.sym 1),(.sint .i64 16),(.sint .i64 17),(.sint .i64 18),(.sint .i64 19),(.sint .i64 20),(.sint .i64 21),(.sint .i64 22),(.sym 23),(.sym 24),(.sym 25),(.sint .i64 26),(.sint .i64 27),(.sint .i64 28)]
(.bin .add .i64 (.sint .i64 13) (.int .i64 (1))
(.goto 1 [(some 0)] [(.v (.sym 0)),(.v (.sym 29)),(.v (.sym 2)),(.v (.sint .i64 3)),(.v (.sint .i64 4)),(.v (.sint .i64 5)),(.v (.sint .i64 6)),(.v (.sint .i64 7)),(.v (.sint .i64 8)),(.v (.sint .i64 9)),(.v (.sint .i64 10)),(.v (.sint .i64 11)),(.v (.sym 12)),(.v (.sint .i64 30)),(.v (.sint .i64 14))]))))
(.bin .add .i64 (.sint .i64 14) (.int .i64 (1))
(.goto 0 [] [(.v (.sym 0)),(.v (.sym 1)),(.v (.sint .i64 16))]))))
def re:FnV:=⟨[(.d (.l a5f))],[(.d .s),(.d (.i .i64))],[0,1],[],e0B,[(0,d5O,d1M),(1,d5N,d1L)],[]⟩
def pn(s:ByteArray)(n:Int):ByteArray:=s++b6y (IntKind.u64.wrap n)
def pz(s:ByteArray)(n:Int):ByteArray:=s++b6y (zig n)
def a5t(s:ByteArray)(es:List (List G)):ByteArray:=es.foldl (fun s x=>pn s (x.getD 0 .d).int) s
def b0f(s:ByteArray)(es:List (List G)):ByteArray:=es.foldl (fun s x=>pz (pz (pn s (x.getD 0 .d).int) (x.getD 1 .d).int) (x.getD 2 .d).int) s
def d9U(b:Bool):Int:=if b=true then 1 else 0
def abH(s:ByteArray)(g:List G):ByteArray:=
 pn (a5t (pn (pn (pn (pn (pn (pn (pn (pn (pn s (g.getD 0 .d).int) (g.getD 1 .d).int) (g.getD 2 .d).int) (g.getD 3 .d).int) (g.getD 4 .d).int) (g.getD 5 .d).int) (g.getD 6 .d).int) (d9U (g.getD 7 .d).bool)) (g.getD 8 .d).es.length) (g.getD 8 .d).es) (g.getD 9 .d).es.length
def abB(s:ByteArray)(g:List G):ByteArray:=
 pz (pz (pn (b0f (abH s g) (g.getD 9 .d).es) (g.getD 10 .d).int) (g.getD 11 .d).int) (g.getD 12 .d).int
def a7m(f:FuncId):Ct:=⟨f,[.d .s,.d (.i .u64)],[.d .s],fun gs=>(gs.getD 0 .d).str.size≤1099511627776,fun gs=>[.s ((gs.getD 0 .d).str++b6y (gs.getD 1 .d).int)]⟩
def a8s(f:FuncId):Ct:=⟨f,[.d .s,.d (.i .i64)],[.d .s],fun gs=>(gs.getD 0 .d).str.size≤1099511627776,fun gs=>[.s (pz (gs.getD 0 .d).str (gs.getD 1 .d).int)]⟩
def a2f(f:FuncId):Ct:=⟨f,[.d .s,.d (.l c3H)],[.d .s],fun gs=>(gs.getD 0 .d).str.size+9*(gs.getD 1 .d).es.length≤1099511627776,fun gs=>[.s (a5t (gs.getD 0 .d).str (gs.getD 1 .d).es)]⟩
def c6Z(g:List G):Nat:=9*(g.getD 8 .d).es.length+27*(g.getD 9 .d).es.length+117
def cAb(f:FuncId):Ct:=⟨f,[.d .s,.st b1k],[.d .s],fun gs=>(gs.getD 0 .d).str.size+c6Z gs.tail≤1099511627776,fun gs=>[.s (abB (gs.getD 0 .d).str gs.tail)]⟩
def C4:List Ct:=[a7m 35,a7m 37,a8s 54,a8s 38]
def C6:List Ct:=[a7m 35,a7m 37,a8s 54,a8s 38,a2f 17,a2f 20]
theorem hng:a4B Try.prog:=b4z plq.b8w
theorem e0X:b3V Try.prog (Cs C4) (Ds []) Try.f17 nu=true:=by kernel_rfl
theorem d9q:b3V Try.prog (Cs C4) (Ds []) Try.f20 rn=true:=by kernel_rfl
theorem e0Q:b3V Try.prog (Cs C6) (Ds []) Try.f19 pa=true:=by kernel_rfl
theorem e0D:b3V Try.prog (Cs C6) (Ds []) Try.f22 ra=true:=by kernel_rfl
theorem e0z:b3V Try.prog (Cs []) (Ds []) Try.f7 cu=true:=by kernel_rfl
theorem sz0{s:ByteArray}{B:Nat}(h:s.size+0≤B):s.size≤B:=h
theorem szn{s:ByteArray}{x:Int}{k B:Nat}(h:s.size+(k+9)≤B):(s++b6y x).size+k≤B:=by
 have:=(b6x x).2
 rw[ByteArray.size_append]
 omega
theorem b2q{s:ByteArray}{x:Int}{k B:Nat}(h:s.size+(k+9)≤B):(pn s x).size+k≤B:=szn h
theorem b1W{s:ByteArray}{x:Int}{k B:Nat}(h:s.size+(k+9)≤B):(pz s x).size+k≤B:=szn h
theorem a2Z: ∀{es:List (List G)} {s:ByteArray} {k B:Nat},s.size+(k+9*es.length)≤B→(a5t s es).size+k≤B
 | [],s,k,B,h=>by simpa[a5t]using h
 |x::l,s,k,B,h=>by
  show(a5t (pn s _) l).size+k≤B
  refine a2Z (b2q ?_)
  simp only[List.length_cons]at h
  omega
theorem a2O: ∀{es:List (List G)} {s:ByteArray} {k B:Nat},s.size+(k+27*es.length)≤B→(b0f s es).size+k≤B
 | [],s,k,B,h=>by simpa[b0f]using h
 |x::l,s,k,B,h=>by
  show(b0f (pz (pz (pn s _) _) _) l).size+k≤B
  refine a2O (b1W (b1W (b2q ?_)))
  simp only[List.length_cons]at h
  omega
theorem d0v{s:ByteArray}{g:List G}{k B:Nat}(h:s.size+(k+(9*(g.getD 8 .d).es.length+90))≤B):(abH s g).size+k≤B:=by
 unfold abH
 repeat (first|with_reducible refine b2q ?_|with_reducible refine b1W ?_|with_reducible refine szn ?_|with_reducible refine a2Z ?_|with_reducible refine a2O ?_)
 omega
theorem d9V{s:ByteArray}{g:List G}{k B:Nat}(h:s.size+(k+c6Z g)≤B):(abB s g).size+k≤B:=by
 unfold abB
 unfold c6Z at h
 refine b1W (b1W (b2q (a2O (d0v ?_))))
 omega
theorem d5f{f:FuncId}(h: ∀{x:Int} {s:ByteArray} {w:World},0≤x→x<18446744073709551616→s.size≤1099511627776→Calls Try.prog f #[.string s,.int .u64 x] w fun e w'=>e= .returned (.string (s++b6y x))∧Below w.heap.size w w'):CtOK Try.prog (a7m f):=by
 refine⟨rfl,fun gs ht hp=> ?_,fun w gs ht _ hp=> ?_⟩
 ·obtain⟨g0,l,rfl,t0,ht⟩:=tyC ht
  obtain⟨s,rfl,hs⟩:=tyS t0
  have:(s++b6y ((G.s s::l).getD 1 .d).int).size≤9223372036854775807:=by
   have hp':s.size≤1099511627776:=hp
   ((try (with_reducible refine sz0 ?_));repeat (first|with_reducible refine b2q ?_|with_reducible refine b1W ?_|with_reducible refine szn ?_|with_reducible refine a2Z ?_|with_reducible refine a2O ?_))
   omega
  exact⟨by simp only[TyOK];exact Int.ofNat_le.2 this,trivial⟩
 ·obtain⟨g0,l,rfl,t0,h1⟩:=tyC ht
  obtain⟨s,rfl,hs⟩:=tyS t0
  obtain⟨g1,l,rfl,t1,h2⟩:=tyC h1
  obtain⟨n,rfl,n0,n1⟩:=d9S t1
  obtain rfl:=tyN h2
  exact h n0 (by omega) hp
theorem d5u{f:FuncId}(h: ∀{n:Int} {s:ByteArray} {w:World},-9223372036854775808≤n→n≤9223372036854775807→s.size≤1099511627776→Calls Try.prog f #[.string s,.int .i64 n] w fun e w'=>e= .returned (.string (s++b6y (zig n)))∧Below w.heap.size w w'):CtOK Try.prog (a8s f):=by
 refine⟨rfl,fun gs ht hp=> ?_,fun w gs ht _ hp=> ?_⟩
 ·obtain⟨g0,l,rfl,t0,ht⟩:=tyC ht
  obtain⟨s,rfl,hs⟩:=tyS t0
  have:(pz s ((G.s s::l).getD 1 .d).int).size≤9223372036854775807:=by
   have hp':s.size≤1099511627776:=hp
   ((try (with_reducible refine sz0 ?_));repeat (first|with_reducible refine b2q ?_|with_reducible refine b1W ?_|with_reducible refine szn ?_|with_reducible refine a2Z ?_|with_reducible refine a2O ?_))
   omega
  exact⟨by simp only[TyOK];exact Int.ofNat_le.2 this,trivial⟩
 ·obtain⟨g0,l,rfl,t0,h1⟩:=tyC ht
  obtain⟨s,rfl,hs⟩:=tyS t0
  obtain⟨g1,l,rfl,t1,h2⟩:=tyC h1
  obtain⟨n,rfl,n0,n1⟩:=a1y t1
  obtain rfl:=tyN h2
  exact h n0 n1 hp
theorem a3L{β:Type}{f:β→List G→β}{s:β}{es:List (List G)}{i:Nat}(h:i<es.length):(es.take (i+1)).foldl f s=f ((es.take i).foldl f s) (es.getD i []):=by
 rw[List.take_add_one,List.foldl_append,List.getD_eq_getElem?_getD,List.getElem?_eq_getElem h]
 rfl
theorem d2r: ∀c∈C4,CtOK Try.prog c:=by
 intro c hc
 simp only[C4,List.mem_cons,List.not_mem_nil,or_false]at hc
 rcases hc with rfl|rfl|rfl|rfl
 ·exact d5f b0E
 ·exact d5f a4y
 ·exact d5u b6p
 ·exact d5u b4m
theorem c2X{w:World}(s:ByteArray)(v:Value)(es:List (List G))(hs:s.size+9*es.length≤1099511627776)(ht:TyL (a0O nu.psh) [.s s,.l v es])(hm:GML w [.s s,.l v es]):
  Calls Try.prog 17 ⟨a4T nu.psh [.s s,.l v es]⟩ w fun e w'=> ∃gs,gs= [.s (a5t s es)]∧e= .returned (b3D nu.rs gs)∧TyL (a0O nu.rs) gs∧GML (a0d w' []) gs∧Below w.heap.size w w':=by
 refine a4J hng plq.mixed (b7z d2r) (b7y (by intro c hc;cases hc)) Try.func17 e0X (fun t σ=> ∃i:Nat,i≤es.length∧σ= [.s (a5t s (es.take i)),.l v es,.i .i64 es.length,.i .i64 i]) (fun t σ=>es.length-(σ.getD 3 .d).int.toNat) (fun gs=>gs= [.s (a5t s es)]) ?_ ?_ ?_ ?_ ?_ (L:=[]) (by intro b hb;cases hb) ht (by simpa[a0d]using hm)
 ·simp only[nu,e2R,wp,a4s,allG1,gG,a4z,List.getD_cons_zero,List.getD_cons_succ,List.cons_append,List.nil_append,a0E,a0v]
  exact⟨0,Nat.zero_le _,rfl⟩
 ·simp only[nu,List.mem_singleton]
  rintro q rfl σ hi q j jn ts et n h
  simp[d5h]at h
 ·intro q hq
  cases hq
 ·simp only[nu,List.mem_singleton]
  rintro q rfl σ hty ⟨i,hi,rfl⟩
  simp only[d5g,C4,a7m,wp,a4s,allG1,gG,a2t,a4O,Cs,c6J,Option.some.injEq,exists_eq_left',List.getD_cons_zero,List.getD_cons_succ,List.cons_append,List.nil_append,a0E,a0W,a0v,a1E,a1M,List.length_cons,List.length_nil,List.map_cons,List.map_nil,a3t,Int.toNat_natCast,Nat.zero_add]
  have hl:(es.take i).length≤i:=List.length_take_le _ _
  refine⟨fun hlt=>⟨by omega,hlt,by((try (with_reducible refine sz0 ?_));repeat (first|with_reducible refine b2q ?_|with_reducible refine b1W ?_|with_reducible refine szn ?_|with_reducible refine a2Z ?_|with_reducible refine a2O ?_));omega,⟨i+1,by omega, ?_⟩, ?_⟩,fun hge=> ?_⟩
  ·have e:a5t s (es.take (i+1))=pn (a5t s (es.take i)) ((es.getD i []).getD 0 .d).int:=a3L (by omega)
   rw[a1H (by omega),e]
   rfl
  ·rw[a1H (by omega)]
   omega
  ·rw[List.take_of_length_le (by omega)]
 ·intro q hq
  cases hq
theorem d1j:CtOK Try.prog (a2f 17):=by
 refine⟨rfl,fun gs ht hp=> ?_,fun w gs ht hm hp=> ?_⟩
 ·obtain⟨g0,l,rfl,t0,h1⟩:=tyC ht
  obtain⟨s,rfl,hs⟩:=tyS t0
  have:(a5t s ((G.s s::l).getD 1 .d).es).size≤9223372036854775807:=by
   have hp':s.size+9*((G.s s::l).getD 1 .d).es.length≤1099511627776:=hp
   ((try (with_reducible refine sz0 ?_));repeat (first|with_reducible refine b2q ?_|with_reducible refine b1W ?_|with_reducible refine szn ?_|with_reducible refine a2Z ?_|with_reducible refine a2O ?_))
   omega
  exact⟨by simp only[TyOK];exact Int.ofNat_le.2 this,trivial⟩
 ·have ht0:=ht
  obtain⟨g0,l,rfl,t0,h1⟩:=tyC ht
  obtain⟨s,rfl,hs⟩:=tyS t0
  obtain⟨g1,l,rfl,t1,h2⟩:=tyC h1
  obtain⟨v,es,rfl,hes,hel⟩:=c1y t1
  obtain rfl:=tyN h2
  refine(c2X s v es hp ht0 hm).mono ?_
  rintro e w' ⟨gs,rfl,he,_,_,hb⟩
  exact⟨he,hb⟩
theorem b8h{w:World}(s:ByteArray)(v:Value)(es:List (List G))(hs:s.size+9*es.length≤1099511627776)(ht:TyL (a0O rn.psh) [.s s,.l v es])(hm:GML w [.s s,.l v es]):
  Calls Try.prog 20 ⟨a4T rn.psh [.s s,.l v es]⟩ w fun e w'=> ∃gs,gs= [.s (a5t s es)]∧e= .returned (b3D rn.rs gs)∧TyL (a0O rn.rs) gs∧GML (a0d w' []) gs∧Below w.heap.size w w':=by
 refine a4J hng plq.mixed (b7z d2r) (b7y (by intro c hc;cases hc)) Try.func20 d9q (fun t σ=> ∃i:Nat,i≤es.length∧σ= [.s (a5t s (es.take i)),.l v es,.i .i64 i]) (fun t σ=>es.length-(σ.getD 2 .d).int.toNat) (fun gs=>gs= [.s (a5t s es)]) ?_ ?_ ?_ ?_ ?_ (L:=[]) (by intro b hb;cases hb) ht (by simpa[a0d]using hm)
 ·simp only[rn,e2O,wp,a4s,allG1,gG,a4z,List.getD_cons_zero,List.getD_cons_succ]
  exact⟨0,Nat.zero_le _,rfl⟩
 ·simp only[rn,List.mem_singleton]
  rintro q rfl σ hi q j jn ts et n h
  simp[d5F]at h
 ·intro q hq
  cases hq
 ·simp only[rn,List.mem_singleton]
  rintro q rfl σ hty ⟨i,hi,rfl⟩
  simp only[d5E,C4,a7m,wp,a4s,allG1,gG,a2t,a4O,Cs,c6J,Option.some.injEq,exists_eq_left',List.getD_cons_zero,List.getD_cons_succ,List.cons_append,List.nil_append,a0E,a0W,a0v,a1E,a1M,List.length_cons,List.length_nil,List.map_cons,List.map_nil,a3t,Int.toNat_natCast,Nat.zero_add]
  have hl:(es.take i).length≤i:=List.length_take_le _ _
  refine⟨fun hlt=>⟨by omega,hlt,by((try (with_reducible refine sz0 ?_));repeat (first|with_reducible refine b2q ?_|with_reducible refine b1W ?_|with_reducible refine szn ?_|with_reducible refine a2Z ?_|with_reducible refine a2O ?_));omega,⟨i+1,by omega, ?_⟩, ?_⟩,fun hge=> ?_⟩
  ·have e:a5t s (es.take (i+1))=pn (a5t s (es.take i)) ((es.getD i []).getD 0 .d).int:=a3L (by omega)
   rw[a1H (by omega),e]
   rfl
  ·rw[a1H (by omega)]
   omega
  ·rw[List.take_of_length_le (by omega)]
 ·intro q hq
  cases hq
theorem c7X:CtOK Try.prog (a2f 20):=by
 refine⟨rfl,fun gs ht hp=> ?_,fun w gs ht hm hp=> ?_⟩
 ·obtain⟨g0,l,rfl,t0,h1⟩:=tyC ht
  obtain⟨s,rfl,hs⟩:=tyS t0
  have:(a5t s ((G.s s::l).getD 1 .d).es).size≤9223372036854775807:=by
   have hp':s.size+9*((G.s s::l).getD 1 .d).es.length≤1099511627776:=hp
   ((try (with_reducible refine sz0 ?_));repeat (first|with_reducible refine b2q ?_|with_reducible refine b1W ?_|with_reducible refine szn ?_|with_reducible refine a2Z ?_|with_reducible refine a2O ?_))
   omega
  exact⟨by simp only[TyOK];exact Int.ofNat_le.2 this,trivial⟩
 ·have ht0:=ht
  obtain⟨g0,l,rfl,t0,h1⟩:=tyC ht
  obtain⟨s,rfl,hs⟩:=tyS t0
  obtain⟨g1,l,rfl,t1,h2⟩:=tyC h1
  obtain⟨v,es,rfl,hes,hel⟩:=c1y t1
  obtain rfl:=tyN h2
  refine(b8h s v es hp ht0 hm).mono ?_
  rintro e w' ⟨gs,rfl,he,_,_,hb⟩
  exact⟨he,hb⟩
theorem d2q: ∀c∈C6,CtOK Try.prog c:=by
 intro c hc
 rw[show C6=C4++ [a2f 17,a2f 20]from rfl,List.mem_append]at hc
 rcases hc with hc|hc
 ·exact d2r c hc
 ·simp only[List.mem_cons,List.not_mem_nil,or_false]at hc
  rcases hc with rfl|rfl
  ·exact d1j
  ·exact c7X
end
end Go.Proofs.Ytmmmknhdigapkaa.poolLays
namespace Go.Proofs.Ytmmmknhdigapkaa.poolLays
open Go.Ev Go.RowKit
set_option linter.unusedVariables false
noncomputable section
def abG(s:ByteArray)(n0 n1 n2 n3 n4 n5 n6 n10 n11 n12:Int)(tap:Bool)(tv cv:Value)(tg code:List (List G)):List G:=
 [.s s,.i .i64 n0,.i .i64 n1,.i .i64 n2,.i .i64 n3,.i .i64 n4,.i .i64 n5,.i .i64 n6,.b tap,.l tv tg,.l cv code,.i .i64 n10,.i .i64 n11,.i .i64 n12]
theorem d0B{gs:List G}(ht:TyL (.s::b1k) gs): ∃s n0 n1 n2 n3 n4 n5 n6 n10 n11 n12 tap tv cv tg code,gs=abG s n0 n1 n2 n3 n4 n5 n6 n10 n11 n12 tap tv cv tg code:=by
 obtain⟨g0,l,rfl,t0,h0⟩:=tyC ht
 obtain⟨s,rfl,_⟩:=tyS t0
 obtain⟨g1,l,rfl,t1,h1⟩:=tyC h0
 obtain⟨n0,rfl,_,_⟩:=a1y t1
 obtain⟨g2,l,rfl,t2,h2⟩:=tyC h1
 obtain⟨n1,rfl,_,_⟩:=a1y t2
 obtain⟨g3,l,rfl,t3,h3⟩:=tyC h2
 obtain⟨n2,rfl,_,_⟩:=a1y t3
 obtain⟨g4,l,rfl,t4,h4⟩:=tyC h3
 obtain⟨n3,rfl,_,_⟩:=a1y t4
 obtain⟨g5,l,rfl,t5,h5⟩:=tyC h4
 obtain⟨n4,rfl,_,_⟩:=a1y t5
 obtain⟨g6,l,rfl,t6,h6⟩:=tyC h5
 obtain⟨n5,rfl,_,_⟩:=a1y t6
 obtain⟨g7,l,rfl,t7,h7⟩:=tyC h6
 obtain⟨n6,rfl,_,_⟩:=a1y t7
 obtain⟨g8,l,rfl,t8,h8⟩:=tyC h7
 obtain⟨tap,rfl⟩:=tyB t8
 obtain⟨g9,l,rfl,t9,h9⟩:=tyC h8
 obtain⟨tv,tg,rfl,_,_⟩:=c1y t9
 obtain⟨g10,l,rfl,t10,h10⟩:=tyC h9
 obtain⟨cv,code,rfl,_,_⟩:=c1y t10
 obtain⟨g11,l,rfl,t11,h11⟩:=tyC h10
 obtain⟨n10,rfl,_,_⟩:=a1y t11
 obtain⟨g12,l,rfl,t12,h12⟩:=tyC h11
 obtain⟨n11,rfl,_,_⟩:=a1y t12
 obtain⟨g13,l,rfl,t13,h13⟩:=tyC h12
 obtain⟨n12,rfl,_,_⟩:=a1y t13
 obtain rfl:=tyN h13
 exact⟨s,n0,n1,n2,n3,n4,n5,n6,n10,n11,n12,tap,tv,cv,tg,code,rfl⟩
theorem b6B{w:World}(s:ByteArray)(n0 n1 n2 n3 n4 n5 n6 n10 n11 n12:Int)(tap:Bool)(tv cv:Value)(tg code:List (List G))(hs:s.size+(9*tg.length+27*code.length+117)≤1099511627776)(ht:TyL (a0O pa.psh) (abG s n0 n1 n2 n3 n4 n5 n6 n10 n11 n12 tap tv cv tg code))(hm:GML w (abG s n0 n1 n2 n3 n4 n5 n6 n10 n11 n12 tap tv cv tg code)):
  Calls Try.prog 19 ⟨a4T pa.psh (abG s n0 n1 n2 n3 n4 n5 n6 n10 n11 n12 tap tv cv tg code)⟩ w fun e w'=> ∃gs,gs= [.s (abB s (abG s n0 n1 n2 n3 n4 n5 n6 n10 n11 n12 tap tv cv tg code).tail)]∧e= .returned (b3D pa.rs gs)∧TyL (a0O pa.rs) gs∧GML (a0d w' []) gs∧Below w.heap.size w w':=by
 obtain⟨H,eH⟩: ∃H,H=abH s (abG s n0 n1 n2 n3 n4 n5 n6 n10 n11 n12 tap tv cv tg code).tail:=⟨_,rfl⟩
 have hH:H.size+27*code.length+27≤1099511627776:=by
  have:=d0v (s:=s) (g:=(abG s n0 n1 n2 n3 n4 n5 n6 n10 n11 n12 tap tv cv tg code).tail) (k:=27*code.length+27) (B:=1099511627776) (by simp only[abG,List.tail_cons,List.getD_cons_succ,List.getD_cons_zero,a2J];omega)
  rw[←eH]at this
  omega
 refine a4J hng plq.mixed (b7z d2q) (b7y (by intro c hc;cases hc)) Try.func19 e0Q (fun t σ=> ∃i:Nat,i≤code.length∧σ= [.s (b0f H (code.take i)),.l cv code,.i .i64 code.length,.i .i64 n0,.i .i64 n1,.i .i64 n2,.i .i64 n3,.i .i64 n4,.i .i64 n5,.i .i64 n6,.l tv tg,.i .i64 n10,.i .i64 n11,.i .i64 n12,.b tap,.i .i64 i]) (fun t σ=>code.length-(σ.getD 15 .d).int.toNat) (fun gs=>gs= [.s (abB s (abG s n0 n1 n2 n3 n4 n5 n6 n10 n11 n12 tap tv cv tg code).tail)]) ?_ ?_ ?_ ?_ ?_ (L:=[]) (by intro b hb;cases hb) ht (by simpa[a0d]using hm)
 ·have w1:IntKind.u64.wrap 1=1:=by rw[IntKind.wrap_u64];rfl
  have w0:IntKind.u64.wrap 0=0:=by rw[IntKind.wrap_u64];rfl
  show wp (Cs C6) e0R _ _
  unfold e0R abG
  (with_reducible refine c7B ?_ ?_)
  all_goals
   simp only[List.getD_cons_zero,List.getD_cons_succ,a1d,List.tail_cons]
   intro hb
   subst hb
   repeat (first
    |((with_reducible refine a4N ?_);simp only[gG,List.getD_cons_zero,List.getD_cons_succ,List.cons_append,List.nil_append,a0E])
    |((with_reducible refine a3k ?_);simp only[gG,List.getD_cons_zero,List.getD_cons_succ,List.cons_append,List.nil_append,a0v])
    |((with_reducible refine a2H ?_ ?_);(focus (simp only[C6,a7m,a2f,a8s,gG,Cs,List.getD_cons_zero,List.getD_cons_succ,a0E,a0W,a2J,List.map_cons,List.map_nil];((try (with_reducible refine sz0 ?_));repeat (first|with_reducible refine b2q ?_|with_reducible refine b1W ?_|with_reducible refine szn ?_|with_reducible refine a2Z ?_|with_reducible refine a2O ?_));omega));simp only[C6,a7m,a2f,a8s,gG,Cs,List.getD_cons_zero,List.getD_cons_succ,List.cons_append,List.nil_append,a0E,a0W,a2J,List.map_cons,List.map_nil]))
   (with_reducible refine a2G ?_)
   simp only[gG,a4s,allG1,a4z,List.getD_cons_zero,List.getD_cons_succ,a0E]
   refine⟨0,Nat.zero_le _, ?_⟩
   rw[eH]
   simp only[abH,abG,pn,List.tail_cons,List.getD_cons_succ,List.getD_cons_zero,a0E,a1d,a2J,d9U,if_true,Bool.false_eq_true,if_false,w0,w1,List.take_zero,b0f,List.foldl_nil]
   rfl
 ·simp only[pa,List.mem_singleton]
  rintro q rfl σ hi q j jn ts et n h
  exfalso
  revert h
  cases q with
  |zero=>simp[d1b]
  |succ q=>simp[d1b]
 ·intro q hq
  cases hq
 ·simp only[pa,List.mem_singleton]
  rintro q rfl σ hty ⟨i,hi,rfl⟩
  show wp (Cs C6) d1a _ _
  unfold d1a
  have hl:(code.take i).length≤i:=List.length_take_le _ _
  (with_reducible refine a9t ?_ ?_)
  ·simp only[gG,List.getD_cons_zero,List.getD_cons_succ,a0E,Int.toNat_natCast]
   intro hlt
   (with_reducible refine a9u ?_ ?_ ?_)
   ·simp only[gG,List.getD_cons_zero,List.getD_cons_succ,a0E]
    omega
   ·simp only[gG,List.getD_cons_zero,List.getD_cons_succ,a0E,a0v]
    exact hlt
   simp only[b4q,gG,List.getD_cons_zero,List.getD_cons_succ,List.cons_append,List.nil_append,a0E,a1E,a1M,a3t,a3s,Int.toNat_natCast,Nat.zero_add,Nat.reduceAdd]
   repeat (first
    |((with_reducible refine a4N ?_);simp only[gG,List.getD_cons_zero,List.getD_cons_succ,List.cons_append,List.nil_append,a0E])
    |((with_reducible refine a3k ?_);simp only[gG,Cs,List.getD_cons_zero,List.getD_cons_succ,List.getD_nil,List.cons_append,List.nil_append,List.append_nil,a0E,a0W,a1d,a2J,a6r,a0v,a1E,a0t,a1A,a1M,List.length_cons,List.length_nil,List.map_cons,List.map_nil,a3t,a3s,List.tail_cons,Int.toNat_natCast,Nat.zero_add,Nat.reduceAdd,a0f])
    |((with_reducible refine a2H ?_ ?_);(focus (simp only[C6,a7m,a2f,a8s,gG,Cs,List.getD_cons_zero,List.getD_cons_succ,a0E,a0W,List.map_cons,List.map_nil];((try (with_reducible refine sz0 ?_));repeat (first|with_reducible refine b2q ?_|with_reducible refine b1W ?_|with_reducible refine szn ?_|with_reducible refine a2Z ?_|with_reducible refine a2O ?_));omega));simp only[C6,a7m,a2f,a8s,gG,Cs,List.getD_cons_zero,List.getD_cons_succ,List.cons_append,List.nil_append,a0E,a0W,List.map_cons,List.map_nil]))
   (with_reducible refine a9v ?_)
   simp only[gG,List.getD_cons_zero,List.getD_cons_succ,List.cons_append,List.nil_append,a0E]
   (with_reducible refine a2G ?_)
   simp only[gG,a4s,allG1,a2t,List.getD_cons_zero,List.getD_cons_succ,a0E]
   refine⟨⟨i+1,by omega, ?_⟩, ?_⟩
   ·have e:b0f H (code.take (i+1))=pz (pz (pn (b0f H (code.take i)) ((code.getD i []).getD 0 .d).int) ((code.getD i []).getD 1 .d).int) ((code.getD i []).getD 2 .d).int:=a3L (by omega)
    rw[a1H (by omega),e]
    rfl
   ·rw[a1H (by omega)]
    omega
  ·simp only[gG,List.getD_cons_zero,List.getD_cons_succ,a0E,Int.toNat_natCast]
   intro hge
   repeat (first
    |((with_reducible refine a4N ?_);simp only[gG,List.getD_cons_zero,List.getD_cons_succ,List.cons_append,List.nil_append,a0E])
    |((with_reducible refine a3k ?_);simp only[gG,Cs,List.getD_cons_zero,List.getD_cons_succ,List.getD_nil,List.cons_append,List.nil_append,List.append_nil,a0E,a0W,a1d,a2J,a6r,a0v,a1E,a0t,a1A,a1M,List.length_cons,List.length_nil,List.map_cons,List.map_nil,a3t,a3s,List.tail_cons,Int.toNat_natCast,Nat.zero_add,Nat.reduceAdd,a0f])
    |((with_reducible refine a2H ?_ ?_);(focus (simp only[C6,a7m,a2f,a8s,gG,Cs,List.getD_cons_zero,List.getD_cons_succ,a0E,a0W,List.map_cons,List.map_nil];((try (with_reducible refine sz0 ?_));repeat (first|with_reducible refine b2q ?_|with_reducible refine b1W ?_|with_reducible refine szn ?_|with_reducible refine a2Z ?_|with_reducible refine a2O ?_));omega));simp only[C6,a7m,a2f,a8s,gG,Cs,List.getD_cons_zero,List.getD_cons_succ,List.cons_append,List.nil_append,a0E,a0W,List.map_cons,List.map_nil]))
   (with_reducible refine a7B ?_)
   simp only[gG,a4s,allG1,a4O,List.getD_cons_zero,List.getD_cons_succ]
   rw[List.take_of_length_le (by omega)]
   unfold abB
   rw[←eH]
   rfl
 ·intro q hq
  cases hq
theorem c3D:CtOK Try.prog (cAb 19):=by
 refine⟨rfl,fun gs ht hp=> ?_,fun w gs ht hm hp=> ?_⟩
 ·obtain⟨g0,l,rfl,t0,h1⟩:=tyC ht
  obtain⟨s,rfl,hs⟩:=tyS t0
  have hp':s.size+c6Z l≤1099511627776:=hp
  have:=d9V (s:=s) (g:=l) (k:=0) (B:=1099511627776) (by omega)
  have h2:(abB s l).size≤9223372036854775807:=by omega
  exact⟨by simp only[TyOK];exact Int.ofNat_le.2 h2,trivial⟩
 ·have ht0:=ht
  obtain⟨s,n0,n1,n2,n3,n4,n5,n6,n10,n11,n12,tap,tv,cv,tg,code,rfl⟩:=d0B ht
  refine(b6B s n0 n1 n2 n3 n4 n5 n6 n10 n11 n12 tap tv cv tg code hp ht0 hm).mono ?_
  rintro e w' ⟨gs,rfl,he,_,_,hb⟩
  exact⟨he,hb⟩
theorem b3F{w:World}(s:ByteArray)(n0 n1 n2 n3 n4 n5 n6 n10 n11 n12:Int)(tap:Bool)(tv cv:Value)(tg code:List (List G))(hs:s.size+(9*tg.length+27*code.length+117)≤1099511627776)(ht:TyL (a0O ra.psh) (abG s n0 n1 n2 n3 n4 n5 n6 n10 n11 n12 tap tv cv tg code))(hm:GML w (abG s n0 n1 n2 n3 n4 n5 n6 n10 n11 n12 tap tv cv tg code)):
  Calls Try.prog 22 ⟨a4T ra.psh (abG s n0 n1 n2 n3 n4 n5 n6 n10 n11 n12 tap tv cv tg code)⟩ w fun e w'=> ∃gs,gs= [.s (abB s (abG s n0 n1 n2 n3 n4 n5 n6 n10 n11 n12 tap tv cv tg code).tail)]∧e= .returned (b3D ra.rs gs)∧TyL (a0O ra.rs) gs∧GML (a0d w' []) gs∧Below w.heap.size w w':=by
 obtain⟨H,eH⟩: ∃H,H=abH s (abG s n0 n1 n2 n3 n4 n5 n6 n10 n11 n12 tap tv cv tg code).tail:=⟨_,rfl⟩
 have hH:H.size+27*code.length+27≤1099511627776:=by
  have:=d0v (s:=s) (g:=(abG s n0 n1 n2 n3 n4 n5 n6 n10 n11 n12 tap tv cv tg code).tail) (k:=27*code.length+27) (B:=1099511627776) (by simp only[abG,List.tail_cons,List.getD_cons_succ,List.getD_cons_zero,a2J];omega)
  rw[←eH]at this
  omega
 refine a4J hng plq.mixed (b7z d2q) (b7y (by intro c hc;cases hc)) Try.func22 e0D (fun t σ=> ∃i:Nat,i≤code.length∧σ= [.s (b0f H (code.take i)),.i .i64 n0,.i .i64 n1,.i .i64 n2,.i .i64 n3,.i .i64 n4,.i .i64 n5,.i .i64 n6,.l tv tg,.l cv code,.i .i64 n10,.i .i64 n11,.i .i64 n12,.b tap,.i .i64 i]) (fun t σ=>code.length-(σ.getD 14 .d).int.toNat) (fun gs=>gs= [.s (abB s (abG s n0 n1 n2 n3 n4 n5 n6 n10 n11 n12 tap tv cv tg code).tail)]) ?_ ?_ ?_ ?_ ?_ (L:=[]) (by intro b hb;cases hb) ht (by simpa[a0d]using hm)
 ·have w1:IntKind.u64.wrap 1=1:=by rw[IntKind.wrap_u64];rfl
  have w0:IntKind.u64.wrap 0=0:=by rw[IntKind.wrap_u64];rfl
  show wp (Cs C6) e0E _ _
  unfold e0E abG
  (with_reducible refine c7B ?_ ?_)
  all_goals
   simp only[List.getD_cons_zero,List.getD_cons_succ,a1d,List.tail_cons]
   intro hb
   subst hb
   repeat (first
    |((with_reducible refine a4N ?_);simp only[gG,List.getD_cons_zero,List.getD_cons_succ,List.cons_append,List.nil_append,a0E])
    |((with_reducible refine a3k ?_);simp only[gG,List.getD_cons_zero,List.getD_cons_succ,List.cons_append,List.nil_append,a0v])
    |((with_reducible refine a2H ?_ ?_);(focus (simp only[C6,a7m,a2f,a8s,gG,Cs,List.getD_cons_zero,List.getD_cons_succ,a0E,a0W,a2J,List.map_cons,List.map_nil];((try (with_reducible refine sz0 ?_));repeat (first|with_reducible refine b2q ?_|with_reducible refine b1W ?_|with_reducible refine szn ?_|with_reducible refine a2Z ?_|with_reducible refine a2O ?_));omega));simp only[C6,a7m,a2f,a8s,gG,Cs,List.getD_cons_zero,List.getD_cons_succ,List.cons_append,List.nil_append,a0E,a0W,a2J,List.map_cons,List.map_nil]))
   (with_reducible refine a2G ?_)
   simp only[gG,a4s,allG1,a4z,List.getD_cons_zero,List.getD_cons_succ,a0E]
   refine⟨0,Nat.zero_le _, ?_⟩
   rw[eH]
   simp only[abH,abG,pn,List.tail_cons,List.getD_cons_succ,List.getD_cons_zero,a0E,a1d,a2J,d9U,if_true,Bool.false_eq_true,if_false,w0,w1,List.take_zero,b0f,List.foldl_nil]
   rfl
 ·simp only[ra,List.mem_singleton]
  rintro q rfl σ hi q j jn ts et n h
  exfalso
  revert h
  cases q with
  |zero=>simp[d1P]
  |succ q=>simp[d1P]
 ·intro q hq
  cases hq
 ·simp only[ra,List.mem_singleton]
  rintro q rfl σ hty ⟨i,hi,rfl⟩
  show wp (Cs C6) d1O _ _
  unfold d1O
  have hl:(code.take i).length≤i:=List.length_take_le _ _
  (with_reducible refine a3k ?_)
  simp only[gG,List.getD_cons_zero,List.getD_cons_succ,List.cons_append,List.nil_append,a0E,a0v,Int.toNat_natCast]
  (with_reducible refine a9t ?_ ?_)
  ·simp only[gG,List.getD_cons_zero,List.getD_cons_succ,a0E]
   intro hlt
   (with_reducible refine a9u ?_ ?_ ?_)
   ·simp only[gG,List.getD_cons_zero,List.getD_cons_succ,a0E]
    omega
   ·simp only[gG,List.getD_cons_zero,List.getD_cons_succ,a0E,a0v]
    exact hlt
   simp only[b4q,gG,List.getD_cons_zero,List.getD_cons_succ,List.cons_append,List.nil_append,a0E,a1E,a1M,a3t,a3s,Int.toNat_natCast,Nat.zero_add,Nat.reduceAdd]
   repeat (first
    |((with_reducible refine a4N ?_);simp only[gG,List.getD_cons_zero,List.getD_cons_succ,List.cons_append,List.nil_append,a0E])
    |((with_reducible refine a3k ?_);simp only[gG,Cs,List.getD_cons_zero,List.getD_cons_succ,List.getD_nil,List.cons_append,List.nil_append,List.append_nil,a0E,a0W,a1d,a2J,a6r,a0v,a1E,a0t,a1A,a1M,List.length_cons,List.length_nil,List.map_cons,List.map_nil,a3t,a3s,List.tail_cons,Int.toNat_natCast,Nat.zero_add,Nat.reduceAdd,a0f])
    |((with_reducible refine a2H ?_ ?_);(focus (simp only[C6,a7m,a2f,a8s,gG,Cs,List.getD_cons_zero,List.getD_cons_succ,a0E,a0W,List.map_cons,List.map_nil];((try (with_reducible refine sz0 ?_));repeat (first|with_reducible refine b2q ?_|with_reducible refine b1W ?_|with_reducible refine szn ?_|with_reducible refine a2Z ?_|with_reducible refine a2O ?_));omega));simp only[C6,a7m,a2f,a8s,gG,Cs,List.getD_cons_zero,List.getD_cons_succ,List.cons_append,List.nil_append,a0E,a0W,List.map_cons,List.map_nil]))
   (with_reducible refine a9v ?_)
   simp only[gG,List.getD_cons_zero,List.getD_cons_succ,List.cons_append,List.nil_append,a0E]
   (with_reducible refine a2G ?_)
   simp only[gG,a4s,allG1,a2t,List.getD_cons_zero,List.getD_cons_succ,a0E]
   refine⟨⟨i+1,by omega, ?_⟩, ?_⟩
   ·have e:b0f H (code.take (i+1))=pz (pz (pn (b0f H (code.take i)) ((code.getD i []).getD 0 .d).int) ((code.getD i []).getD 1 .d).int) ((code.getD i []).getD 2 .d).int:=a3L (by omega)
    rw[a1H (by omega),e]
    rfl
   ·rw[a1H (by omega)]
    omega
  ·simp only[gG,List.getD_cons_zero,List.getD_cons_succ,a0E]
   intro hge
   repeat (first
    |((with_reducible refine a4N ?_);simp only[gG,List.getD_cons_zero,List.getD_cons_succ,List.cons_append,List.nil_append,a0E])
    |((with_reducible refine a3k ?_);simp only[gG,Cs,List.getD_cons_zero,List.getD_cons_succ,List.getD_nil,List.cons_append,List.nil_append,List.append_nil,a0E,a0W,a1d,a2J,a6r,a0v,a1E,a0t,a1A,a1M,List.length_cons,List.length_nil,List.map_cons,List.map_nil,a3t,a3s,List.tail_cons,Int.toNat_natCast,Nat.zero_add,Nat.reduceAdd,a0f])
    |((with_reducible refine a2H ?_ ?_);(focus (simp only[C6,a7m,a2f,a8s,gG,Cs,List.getD_cons_zero,List.getD_cons_succ,a0E,a0W,List.map_cons,List.map_nil];((try (with_reducible refine sz0 ?_));repeat (first|with_reducible refine b2q ?_|with_reducible refine b1W ?_|with_reducible refine szn ?_|with_reducible refine a2Z ?_|with_reducible refine a2O ?_));omega));simp only[C6,a7m,a2f,a8s,gG,Cs,List.getD_cons_zero,List.getD_cons_succ,List.cons_append,List.nil_append,a0E,a0W,List.map_cons,List.map_nil]))
   (with_reducible refine a7B ?_)
   simp only[gG,a4s,allG1,a4O,List.getD_cons_zero,List.getD_cons_succ]
   rw[List.take_of_length_le (by omega)]
   unfold abB
   rw[←eH]
   rfl
 ·intro q hq
  cases hq
theorem b8k:CtOK Try.prog (cAb 22):=by
 refine⟨rfl,fun gs ht hp=> ?_,fun w gs ht hm hp=> ?_⟩
 ·obtain⟨g0,l,rfl,t0,h1⟩:=tyC ht
  obtain⟨s,rfl,hs⟩:=tyS t0
  have hp':s.size+c6Z l≤1099511627776:=hp
  have:=d9V (s:=s) (g:=l) (k:=0) (B:=1099511627776) (by omega)
  have h2:(abB s l).size≤9223372036854775807:=by omega
  exact⟨by simp only[TyOK];exact Int.ofNat_le.2 h2,trivial⟩
 ·have ht0:=ht
  obtain⟨s,n0,n1,n2,n3,n4,n5,n6,n10,n11,n12,tap,tv,cv,tg,code,rfl⟩:=d0B ht
  refine(b3F s n0 n1 n2 n3 n4 n5 n6 n10 n11 n12 tap tv cv tg code hp ht0 hm).mono ?_
  rintro e w' ⟨gs,rfl,he,_,_,hb⟩
  exact⟨he,hb⟩
end
end Go.Proofs.Ytmmmknhdigapkaa.poolLays
namespace Go.Proofs.Ytmmmknhdigapkaa.poolLays
open Go.Ev Go.RowKit Go.Proofs.Ytmmmknhdigapkaa.plq
set_option linter.unusedVariables false
noncomputable section
def adr:Value→Option Addr
 |.slice a _ _=>a
 |_=>none
def cpc:Value→Nat
 |.slice _ _ c=>c
 |_=>0
def bkV(v:Value):Nat:=match adr v with
 |some a=>a.block
 |none=>0
def ofV(v:Value):Nat:=match adr v with
 |some a=>a.off
 |none=>0
theorem c7y{w:World}{v:Value}{es:List (List G)}(h:GM w (.l v es)):v= .slice (adr v) es.length (cpc v):=by
 simp only[GM]at h
 obtain⟨a,c,rfl,_⟩:=h
 rfl
theorem b1x{w:World}{v:Value}{es:List (List G)}{ts:List Ty}(h:GM w (.l v es))(ht:TyLL ts es){i:Nat}{x:List G}(hx:es[i]? =some x):
  adr v=some ⟨bkV v,ofV v,none⟩∧bkV v<w.heap.size∧GMC w (bkV v) (ofV v+i*ts.length) x:=by
 have hne:es≠[]:=by
  intro h
  rw[h]at hx
  cases hx
 simp only[GM]at h
 obtain⟨a,c,rfl,h⟩:=h
 rcases h with⟨h,_⟩|⟨B,O,rfl,h⟩
 ·exact absurd h hne
 ·rcases h with h|⟨h1,h2⟩
  ·exact absurd h hne
  ·exact⟨rfl,h1,GME.at h2 ht hx⟩
def d4m(x:List G):Ins:=((x.getD 0 .d).int,(x.getD 1 .d).int,(x.getD 2 .d).int)
def c9L(x:List G):Ab:=⟨(x.getD 0 .d).int,(x.getD 1 .d).int,(x.getD 2 .d).int,(x.getD 3 .d).int,(x.getD 4 .d).int,(x.getD 5 .d).int,(x.getD 6 .d).int,(x.getD 7 .d).bool,
 (x.getD 8 .d).es.map fun y=>(y.getD 0 .d).int,(x.getD 9 .d).es.map d4m,(x.getD 10 .d).int,(x.getD 11 .d).int,(x.getD 12 .d).int⟩
def abV(x:List G)(i:Nat):List G:=(x.getD 10 .d).es.getD i []
def c3G(x:List G):Cx where
 name:=(x.getD 0 .d).str
 kind:=(x.getD 1 .d).int
 c0:=(x.getD 2 .d).int
 c1:=(x.getD 3 .d).int
 c2:=(x.getD 4 .d).int
 c3:=(x.getD 5 .d).int
 color:=(x.getD 6 .d).int
 power:=(x.getD 7 .d).int
 tough:=(x.getD 8 .d).int
 keys:=(x.getD 9 .d).int
 abs:=(x.getD 10 .d).es.map c9L
 oa:=adr (x.getD 10 .d).val
 cap:=cpc (x.getD 10 .d).val
 B:=bkV (x.getD 10 .d).val
 O:=ofV (x.getD 10 .d).val
 ta:=fun i=>adr ((abV x i).getD 8 .d).val
 tc:=fun i=>cpc ((abV x i).getD 8 .d).val
 tB:=fun i=>bkV ((abV x i).getD 8 .d).val
 tO:=fun i=>ofV ((abV x i).getD 8 .d).val
 ca:=fun i=>adr ((abV x i).getD 9 .d).val
 cc:=fun i=>cpc ((abV x i).getD 9 .d).val
 cB:=fun i=>bkV ((abV x i).getD 9 .d).val
 cO:=fun i=>ofV ((abV x i).getD 9 .d).val
def cdL(s:ByteArray)(n1 n2 n3 n4 n5 n6 n7 n8 n9:Int)(v:Value)(es:List (List G)):List G:=
 [.s s,.i .i64 n1,.i .i64 n2,.i .i64 n3,.i .i64 n4,.i .i64 n5,.i .i64 n6,.i .i64 n7,.i .i64 n8,.i .i64 n9,.l v es]
def abL(n0 n1 n2 n3 n4 n5 n6 n10 n11 n12:Int)(tap:Bool)(tv cv:Value)(tg code:List (List G)):List G:=
 [.i .i64 n0,.i .i64 n1,.i .i64 n2,.i .i64 n3,.i .i64 n4,.i .i64 n5,.i .i64 n6,.b tap,.l tv tg,.l cv code,.i .i64 n10,.i .i64 n11,.i .i64 n12]
theorem b4J{x:List G}(ht:TyL a5f x): ∃s n1 n2 n3 n4 n5 n6 n7 n8 n9 v es,x=cdL s n1 n2 n3 n4 n5 n6 n7 n8 n9 v es∧s.size≤9223372036854775807∧I64 n1∧I64 n2∧I64 n3∧I64 n4∧I64 n5∧I64 n6∧I64 n7∧I64 n8∧I64 n9∧TyLL b1k es∧es.length≤9223372036854775807:=by
 obtain⟨g0,l,rfl,t0,h0⟩:=tyC ht
 obtain⟨s,rfl,hs⟩:=tyS t0
 obtain⟨g1,l,rfl,t1,h1⟩:=tyC h0
 obtain⟨n1,rfl,a1,b1⟩:=a1y t1
 obtain⟨g2,l,rfl,t2,h2⟩:=tyC h1
 obtain⟨n2,rfl,a2,b2⟩:=a1y t2
 obtain⟨g3,l,rfl,t3,h3⟩:=tyC h2
 obtain⟨n3,rfl,a3,b3⟩:=a1y t3
 obtain⟨g4,l,rfl,t4,h4⟩:=tyC h3
 obtain⟨n4,rfl,a4,b4⟩:=a1y t4
 obtain⟨g5,l,rfl,t5,h5⟩:=tyC h4
 obtain⟨n5,rfl,a5,b5⟩:=a1y t5
 obtain⟨g6,l,rfl,t6,h6⟩:=tyC h5
 obtain⟨n6,rfl,a6,b6⟩:=a1y t6
 obtain⟨g7,l,rfl,t7,h7⟩:=tyC h6
 obtain⟨n7,rfl,a7,b7⟩:=a1y t7
 obtain⟨g8,l,rfl,t8,h8⟩:=tyC h7
 obtain⟨n8,rfl,a8,b8⟩:=a1y t8
 obtain⟨g9,l,rfl,t9,h9⟩:=tyC h8
 obtain⟨n9,rfl,a9,b9⟩:=a1y t9
 obtain⟨g10,l,rfl,t10,h10⟩:=tyC h9
 obtain⟨v,es,rfl,e1,e2⟩:=c1y t10
 obtain rfl:=tyN h10
 exact⟨s,n1,n2,n3,n4,n5,n6,n7,n8,n9,v,es,rfl,hs,⟨a1,b1⟩,⟨a2,b2⟩,⟨a3,b3⟩,⟨a4,b4⟩,⟨a5,b5⟩,⟨a6,b6⟩,⟨a7,b7⟩,⟨a8,b8⟩,⟨a9,b9⟩,e1,e2⟩
theorem b4N{x:List G}(ht:TyL b1k x): ∃n0 n1 n2 n3 n4 n5 n6 n10 n11 n12 tap tv cv tg code,x=abL n0 n1 n2 n3 n4 n5 n6 n10 n11 n12 tap tv cv tg code∧I64 n0∧I64 n1∧I64 n2∧I64 n3∧I64 n4∧I64 n5∧I64 n6∧I64 n10∧I64 n11∧I64 n12∧TyLL c3H tg∧tg.length≤9223372036854775807∧TyLL c3I code∧code.length≤9223372036854775807:=by
 obtain⟨g0,l,rfl,t0,h0⟩:=tyC ht
 obtain⟨n0,rfl,a0,b0⟩:=a1y t0
 obtain⟨g1,l,rfl,t1,h1⟩:=tyC h0
 obtain⟨n1,rfl,a1,b1⟩:=a1y t1
 obtain⟨g2,l,rfl,t2,h2⟩:=tyC h1
 obtain⟨n2,rfl,a2,b2⟩:=a1y t2
 obtain⟨g3,l,rfl,t3,h3⟩:=tyC h2
 obtain⟨n3,rfl,a3,b3⟩:=a1y t3
 obtain⟨g4,l,rfl,t4,h4⟩:=tyC h3
 obtain⟨n4,rfl,a4,b4⟩:=a1y t4
 obtain⟨g5,l,rfl,t5,h5⟩:=tyC h4
 obtain⟨n5,rfl,a5,b5⟩:=a1y t5
 obtain⟨g6,l,rfl,t6,h6⟩:=tyC h5
 obtain⟨n6,rfl,a6,b6⟩:=a1y t6
 obtain⟨g7,l,rfl,t7,h7⟩:=tyC h6
 obtain⟨tap,rfl⟩:=tyB t7
 obtain⟨g8,l,rfl,t8,h8⟩:=tyC h7
 obtain⟨tv,tg,rfl,e1,e2⟩:=c1y t8
 obtain⟨g9,l,rfl,t9,h9⟩:=tyC h8
 obtain⟨cv,code,rfl,e3,e4⟩:=c1y t9
 obtain⟨g10,l,rfl,t10,h10⟩:=tyC h9
 obtain⟨n10,rfl,a10,b10⟩:=a1y t10
 obtain⟨g11,l,rfl,t11,h11⟩:=tyC h10
 obtain⟨n11,rfl,a11,b11⟩:=a1y t11
 obtain⟨g12,l,rfl,t12,h12⟩:=tyC h11
 obtain⟨n12,rfl,a12,b12⟩:=a1y t12
 obtain rfl:=tyN h12
 exact⟨n0,n1,n2,n3,n4,n5,n6,n10,n11,n12,tap,tv,cv,tg,code,rfl,⟨a0,b0⟩,⟨a1,b1⟩,⟨a2,b2⟩,⟨a3,b3⟩,⟨a4,b4⟩,⟨a5,b5⟩,⟨a6,b6⟩,⟨a10,b10⟩,⟨a11,b11⟩,⟨a12,b12⟩,e1,e2,e3,e4⟩
theorem c0P{n0 n1 n2 n3 n4 n5 n6 n10 n11 n12:Int}{tap:Bool}{tv cv:Value}{tg code:List (List G)}:c9L (abL n0 n1 n2 n3 n4 n5 n6 n10 n11 n12 tap tv cv tg code)=⟨n0,n1,n2,n3,n4,n5,n6,tap,tg.map fun y=>(y.getD 0 .d).int,code.map d4m,n10,n11,n12⟩:=rfl
theorem c9d{x:List G}(h:TyL c3H x): ∃n,x= [.i .i64 n]∧I64 n:=by
 obtain⟨g,l,rfl,t,h0⟩:=tyC h
 obtain⟨n,rfl,a,b⟩:=a1y t
 obtain rfl:=tyN h0
 exact⟨n,rfl,a,b⟩
theorem c9i{x:List G}(h:TyL c3I x): ∃a b c,x= [.i .i64 a,.i .i64 b,.i .i64 c]∧I64 a∧I64 b∧I64 c:=by
 obtain⟨g,l,rfl,t,h0⟩:=tyC h
 obtain⟨a,rfl,a1,a2⟩:=a1y t
 obtain⟨g,l,rfl,t,h1⟩:=tyC h0
 obtain⟨b,rfl,b1,b2⟩:=a1y t
 obtain⟨g,l,rfl,t,h2⟩:=tyC h1
 obtain⟨c,rfl,c1,c2⟩:=a1y t
 obtain rfl:=tyN h2
 exact⟨a,b,c,rfl,⟨a1,a2⟩,⟨b1,b2⟩,⟨c1,c2⟩⟩
theorem TyLL.mem{ts:List Ty}{es:List (List G)}(h:TyLL ts es){x:List G}(hx:x∈es):TyL ts x:=by
 obtain⟨i,hi,rfl⟩:=List.getElem_of_mem hx
 exact TyLL.at h (List.getElem?_eq_getElem hi)
theorem d2n{x:List G}(h:TyL b1k x):(c9L x).Fits:=by
 obtain⟨n0,n1,n2,n3,n4,n5,n6,n10,n11,n12,tap,tv,cv,tg,code,rfl,i0,i1,i2,i3,i4,i5,i6,i10,i11,i12,e1,e2,e3,e4⟩:=b4N h
 rw[c0P]
 refine⟨?_, ?_, ?_, ?_⟩
 ·intro z hz
  simp only[List.mem_cons,List.not_mem_nil,or_false]at hz
  rcases hz with rfl|rfl|rfl|rfl|rfl|rfl|rfl|rfl|rfl|rfl<;>assumption
 ·intro z hz
  obtain⟨y,hy,rfl⟩:=List.mem_map.1 hz
  obtain⟨n,rfl,hn⟩:=c9d (TyLL.mem e1 hy)
  exact hn
 ·simp only[List.length_map]
  omega
 ·simp only[List.length_map]
  omega
theorem e0x{w:World}{x:List G}(ht:TyL a5f x)(hm:GML w x):(c3G x).OK w:=by
 obtain⟨s,n1,n2,n3,n4,n5,n6,n7,n8,n9,v,es,rfl,hs,i1,i2,i3,i4,i5,i6,i7,i8,i9,e1,e2⟩:=b4J ht
 have hv:GM w (.l v es):=GML.at (j:=10) hm rfl
 have hlen:(c3G (cdL s n1 n2 n3 n4 n5 n6 n7 n8 n9 v es)).abs.length=es.length:=by simp[c3G,cdL,G.es]
 have hab: ∀i,i<es.length→ ∃x,es[i]? =some x∧TyL b1k x∧(c3G (cdL s n1 n2 n3 n4 n5 n6 n7 n8 n9 v es)).ab i=c9L x∧abV (cdL s n1 n2 n3 n4 n5 n6 n7 n8 n9 v es) i=x:=fun i hi=>by
  refine⟨es[i],List.getElem?_eq_getElem hi,TyLL.at e1 (List.getElem?_eq_getElem hi), ?_, ?_⟩
  ·show(es.map c9L).getD i Ab.zero=_
   rw[List.getD_eq_getElem?_getD,List.getElem?_map,List.getElem?_eq_getElem hi]
   rfl
  ·show es.getD i []=_
   rw[List.getD_eq_getElem?_getD,List.getElem?_eq_getElem hi]
   rfl
 refine⟨fun i hi=> ?_,fun i j hi hj=> ?_,fun i hi=> ?_, ?_,by show(s.size:Int)≤_;omega,by rw[hlen];omega, ?_⟩
 ·rw[hlen]at hi
  obtain⟨x,hx,tx,ex,vx⟩:=hab i hi
  obtain⟨a1,a2,a3⟩:=b1x hv e1 hx
  refine⟨a1,a2,fun j u hu=> ?_⟩
  have hgm:=fun g (hg:x[j]? =some g)=>GMC.cell a3 hg
  obtain⟨m0,m1,m2,m3,m4,m5,m6,m10,m11,m12,tap,tv,cv,tg,code,rfl,_⟩:=b4N tx
  have ht8:GM w (.l tv tg):=(GMC.cell a3 (j:=8) rfl).2
  have ht9:GM w (.l cv code):=(GMC.cell a3 (j:=9) rfl).2
  have ec:(c3G (cdL s n1 n2 n3 n4 n5 n6 n7 n8 n9 v es)).cells i=(abL m0 m1 m2 m3 m4 m5 m6 m10 m11 m12 tap tv cv tg code).map G.val:=by
   unfold Cx.cells
   rw[ex,c0P]
   show [_,_,_,_,_,_,_,_,Value.slice (adr ((abV _ i).getD 8 .d).val) (List.map _ tg).length (cpc ((abV _ i).getD 8 .d).val),Value.slice (adr ((abV _ i).getD 9 .d).val) (List.map _ code).length (cpc ((abV _ i).getD 9 .d).val),_,_,_]=_
   rw[vx,List.length_map,List.length_map]
   show [_,_,_,_,_,_,_,_,Value.slice (adr tv) tg.length (cpc tv),Value.slice (adr cv) code.length (cpc cv),_,_,_]= [_,_,_,_,_,_,_,_,tv,cv,_,_,_]
   rw[←c7y ht8,←c7y ht9]
   rfl
  rw[ec,List.getElem?_map]at hu
  cases hg:(abL m0 m1 m2 m3 m4 m5 m6 m10 m11 m12 tap tv cv tg code)[j]? with
  |none=>rw[hg]at hu;cases hu
  |some g=>
   rw[hg]at hu
   cases hu
   exact(hgm g hg).1
 ·rw[hlen]at hi
  obtain⟨x,hx,tx,ex,vx⟩:=hab i hi
  obtain⟨_,_,a3⟩:=b1x hv e1 hx
  obtain⟨m0,m1,m2,m3,m4,m5,m6,m10,m11,m12,tap,tv,cv,tg,code,rfl,_,_,_,_,_,_,_,_,_,_,f1,_⟩:=b4N tx
  have ht8:GM w (.l tv tg):=(GMC.cell a3 (j:=8) rfl).2
  rw[ex,c0P]at hj ⊢
  simp only[List.length_map]at hj
  obtain⟨b1,b2,b3⟩:=b1x ht8 f1 (List.getElem?_eq_getElem hj)
  show adr ((abV _ i).getD 8 .d).val=some ⟨bkV ((abV _ i).getD 8 .d).val,ofV ((abV _ i).getD 8 .d).val,none⟩∧bkV ((abV _ i).getD 8 .d).val<_∧w.cell? ⟨bkV ((abV _ i).getD 8 .d).val,ofV ((abV _ i).getD 8 .d).val+j,none⟩=_
  rw[vx]
  obtain⟨n,en,_⟩:=c9d (TyLL.at f1 (List.getElem?_eq_getElem hj))
  rw[en]at b3
  have b4:=(GMC.cell b3 (j:=0) rfl).1
  refine⟨b1,b2, ?_⟩
  have e3:(tg.map fun y=>(y.getD 0 .d).int).getD j 0=n:=by
   rw[List.getD_eq_getElem?_getD,List.getElem?_map,List.getElem?_eq_getElem hj,en]
   rfl
  show w.cell? ⟨bkV tv,ofV tv+j,none⟩=some (.int .i64 ((tg.map fun y=>(y.getD 0 .d).int).getD j 0))
  rw[e3]
  rw[show ofV tv+j=ofV tv+j*c3H.length+0 by rw[c7c];omega]
  exact b4
 ·rw[hlen]at hi
  obtain⟨x,hx,tx,ex,vx⟩:=hab i hi
  obtain⟨_,_,a3⟩:=b1x hv e1 hx
  obtain⟨m0,m1,m2,m3,m4,m5,m6,m10,m11,m12,tap,tv,cv,tg,code,rfl,_,_,_,_,_,_,_,_,_,_,_,_,f1,_⟩:=b4N tx
  have ht9:GM w (.l cv code):=(GMC.cell a3 (j:=9) rfl).2
  rw[ex,c0P]
  refine⟨fun k y hy=> ?_,fun y hy=> ?_⟩
  ·rw[List.getElem?_map]at hy
   cases hk:code[k]? with
   |none=>rw[hk]at hy;cases hy
   |some z=>
    rw[hk]at hy
    cases hy
    obtain⟨b1,b2,b3⟩:=b1x ht9 f1 hk
    obtain⟨a,b,c,rfl,_⟩:=c9i (TyLL.at f1 hk)
    rw[b4q]at b3
    show adr ((abV _ i).getD 9 .d).val=some ⟨bkV ((abV _ i).getD 9 .d).val,ofV ((abV _ i).getD 9 .d).val,none⟩∧bkV ((abV _ i).getD 9 .d).val<_∧w.cell? ⟨bkV ((abV _ i).getD 9 .d).val,ofV ((abV _ i).getD 9 .d).val+k*3,none⟩=_∧w.cell? ⟨bkV ((abV _ i).getD 9 .d).val,ofV ((abV _ i).getD 9 .d).val+k*3+1,none⟩=_∧w.cell? ⟨bkV ((abV _ i).getD 9 .d).val,ofV ((abV _ i).getD 9 .d).val+k*3+2,none⟩=_
    rw[vx]
    exact⟨b1,b2,(GMC.cell b3 (j:=0) rfl).1,(GMC.cell b3 (j:=1) rfl).1,(GMC.cell b3 (j:=2) rfl).1⟩
  ·obtain⟨z,hz,rfl⟩:=List.mem_map.1 hy
   obtain⟨a,b,c,rfl,h1,h2,h3⟩:=c9i (TyLL.mem f1 hz)
   exact⟨h1,h2,h3⟩
 ·intro z hz
  simp only[c3G,cdL,List.getD_cons_zero,List.getD_cons_succ,G.int,List.mem_cons,List.not_mem_nil,or_false]at hz
  rcases hz with rfl|rfl|rfl|rfl|rfl|rfl|rfl|rfl|rfl<;>assumption
 ·intro y hy
  obtain⟨x,hx,rfl⟩:=List.mem_map.1 hy
  exact d2n (TyLL.mem e1 hx)
def b0D(a:List G):Prop:=(a.getD 8 .d).es.length≤5∧(a.getD 9 .d).es.length≤35
def a5T(x:List G):Prop:=(x.getD 0 .d).str.size≤40∧(x.getD 10 .d).es.length≤5∧ ∀a∈(x.getD 10 .d).es,b0D a
def a5S(es:List (List G)):Prop:=es.length≤42∧ ∀x∈es,a5T x
def b7h(es:List (List G)):Int:=PL.chk ⟨es.map c3G,none,0,0,0⟩
def d4l(v:Value)(es:List (List G)):PL:=⟨es.map c3G,adr v,cpc v,bkV v,ofV v⟩
theorem d6O(v:Value)(es:List (List G)):(d4l v es).chk=b7h es:=rfl
theorem e0L{w:World}{v:Value}{es:List (List G)}(ht:TyLL a5f es)(hm:GM w (.l v es))(hs:a5S es):(d4l v es).OK w∧(d4l v es).v=v:=by
 refine⟨⟨by simp[d4l];exact hs.1, ?_, ?_, ?_⟩, ?_⟩
 ·intro D hD
  obtain⟨x,hx,rfl⟩:=List.mem_map.1 hD
  obtain⟨i,hi,rfl⟩:=List.getElem_of_mem hx
  obtain⟨_,_,h3⟩:=b1x hm ht (List.getElem?_eq_getElem hi)
  exact e0x (TyLL.mem ht hx) h3.gml
 ·intro D hD
  obtain⟨x,hx,rfl⟩:=List.mem_map.1 hD
  obtain⟨a,b,c⟩:=hs.2 x hx
  refine⟨a,by simpa[c3G]using b,fun y hy=> ?_⟩
  obtain⟨z,hz,rfl⟩:=List.mem_map.1 hy
  obtain⟨c1,c2⟩:=c z hz
  exact⟨by simpa[c9L]using c1,by simpa[c9L]using c2⟩
 ·intro i D hD
  rw[show(d4l v es).cs=es.map c3G from rfl,List.getElem?_map]at hD
  cases hx:es[i]? with
  |none=>rw[hx]at hD;cases hD
  |some x=>
   rw[hx]at hD
   cases hD
   obtain⟨h1,h2,h3⟩:=b1x hm ht hx
   refine⟨h1, ?_⟩
   have tx:=TyLL.at ht hx
   obtain⟨s,n1,n2,n3,n4,n5,n6,n7,n8,n9,u,us,rfl,_⟩:=b4J tx
   have hu:GM w (.l u us):=(GMC.cell h3 (j:=10) rfl).2
   have ec:(c3G (cdL s n1 n2 n3 n4 n5 n6 n7 n8 n9 u us)).cells11=(cdL s n1 n2 n3 n4 n5 n6 n7 n8 n9 u us).map G.val:=by
    show [_,_,_,_,_,_,_,_,_,_,Value.slice (adr u) (List.map c9L us).length (cpc u)]= [_,_,_,_,_,_,_,_,_,_,u]
    rw[List.length_map,←c7y hu]
    rfl
   rw[ec]
   refine⟨h2,fun j y hj=> ?_⟩
   rw[List.getElem?_map]at hj
   cases hg:(cdL s n1 n2 n3 n4 n5 n6 n7 n8 n9 u us)[j]? with
   |none=>rw[hg]at hj;cases hj
   |some g=>
    rw[hg]at hj
    cases hj
    have:=(GMC.cell h3 hg).1
    rw[b0s]at this
    exact this
 ·show Value.slice (adr v) (List.map c3G es).length (cpc v)=v
  rw[List.length_map]
  exact(c7y hm).symm
def b9m(f:FuncId):Ct:=⟨f,[.d (.l a5f)],[.d (.i .i64)],fun gs=>a5S (gs.getD 0 .d).es,fun gs=>[.i .i64 (b7h (gs.getD 0 .d).es)]⟩
theorem c5t(es:List (List G)):b7h es=0∨b7h es=2∨b7h es=3∨b7h es=10∨b7h es=11:=by
 unfold b7h PL.chk
 repeat' split
 all_goals simp
theorem d6P{f:FuncId}(h: ∀{p:PL} {w:World},p.OK w→Calls Try.prog f ⟨[p.v]⟩ w fun e w'=>e= .returned (n64 p.chk)∧Below w.heap.size w w'):CtOK Try.prog (b9m f):=by
 refine⟨rfl,fun gs ht hp=> ?_,fun w gs ht hm hp=> ?_⟩
 ·refine⟨?_,trivial⟩
  show IntKind.i64=IntKind.i64∧_
  refine⟨rfl, ?_⟩
  show(-9223372036854775808:Int)≤_∧_≤(9223372036854775807:Int)
  rcases c5t (gs.getD 0 .d).es with h|h|h|h|h<;>rw[h]<;>decide
 ·obtain⟨g,l,rfl,t,h0⟩:=tyC ht
  obtain⟨v,es,rfl,e1,e2⟩:=c1y t
  obtain rfl:=tyN h0
  obtain⟨h1,h2⟩:=e0L e1 (GML.at (j:=0) hm rfl) hp
  have h3:=h h1
  rw[h2,d6O]at h3
  exact h3
def C10:List Ct:=[a7m 35,a7m 37,a8s 54,a8s 38,a2f 17,a2f 20,cAb 19,cAb 22,b9m 10,b9m 11]
theorem c6T: ∀c∈C10,CtOK Try.prog c:=by
 intro c hc
 rw[show C10=C6++ [cAb 19,cAb 22,b9m 10,b9m 11]from rfl,List.mem_append]at hc
 rcases hc with hc|hc
 ·exact d2q c hc
 ·simp only[List.mem_cons,List.not_mem_nil,or_false]at hc
  rcases hc with rfl|rfl|rfl|rfl
  ·exact c3D
  ·exact b8k
  ·exact d6P c4R
  ·exact d6P e3Y
theorem e0u:b3V Try.prog (Cs C10) (Ds []) Try.f8 en=true:=by kernel_rfl
theorem e0A:b3V Try.prog (Cs C10) (Ds []) Try.f9 re=true:=by kernel_rfl
end
end Go.Proofs.Ytmmmknhdigapkaa.poolLays
namespace Go.Proofs.Ytmmmknhdigapkaa.poolLays
open Go.Ev Go.RowKit Go.Proofs.Ytmmmknhdigapkaa.plq
set_option linter.unusedVariables false
noncomputable section
def a5M(s:ByteArray)(x:List G):ByteArray:=
 pn (pn (pn (pn (pn (pn (pn (pn (pn (pn (pn s (x.getD 0 .d).str.size++(x.getD 0 .d).str) (x.getD 1 .d).int) (x.getD 2 .d).int) (x.getD 3 .d).int) (x.getD 4 .d).int) (x.getD 5 .d).int) (x.getD 6 .d).int) (x.getD 7 .d).int) (x.getD 8 .d).int) (x.getD 9 .d).int) (x.getD 10 .d).es.length
def b7u(s:ByteArray)(l:List (List G)):ByteArray:=l.foldl abB s
def b3Y(s:ByteArray)(x:List G):ByteArray:=b7u (a5M s x) (x.getD 10 .d).es
def a1T(s:ByteArray)(l:List (List G)):ByteArray:=l.foldl b3Y s
def d6B(es:List (List G)):ByteArray:=a1T (pn ⟨#[]⟩ es.length) es
def encR(es:List (List G)):List G:=if b7h es=0 then [.s (d6B es),.i .i64 0]else [.s ⟨#[]⟩,.i .i64 (b7h es)]
def d4w:Nat→Prop→Prop→Prop
 |0,A,_=>A
 |_+1,_,B=>B
theorem b6h{A B:Prop}:d4w 0 A B=A:=rfl
theorem b6g{A B:Prop}:d4w 1 A B=B:=rfl
theorem d3B{s t:ByteArray}{k B:Nat}(h:s.size+(k+t.size)≤B):(s++t).size+k≤B:=by
 rw[ByteArray.size_append]
 omega
theorem c7L{s t:ByteArray}{x:Int}(h:s.size+(9+t.size)≤9223372036854775807):((s++b6y x++t).size:Int)≤9223372036854775807:=by
 have:=(b6x x).2
 rw[ByteArray.size_append,ByteArray.size_append]
 omega
theorem szH{s:ByteArray}{x:List G}(h:a5T x):(a5M s x).size≤s.size+139:=by
 unfold a5M
 have:=h.1
 ((try (with_reducible refine sz0 ?_));repeat (first|with_reducible refine b2q ?_|with_reducible refine b1W ?_|with_reducible refine szn ?_|with_reducible refine d3B ?_|with_reducible refine a2Z ?_|with_reducible refine a2O ?_))
 omega
theorem c7M: ∀{l:List (List G)} {s:ByteArray},(∀a∈l,b0D a)→(b7u s l).size≤s.size+1107*l.length
 | [],s,_=>by simp[b7u]
 |a::l,s,h=>by
  have h1:=c7M (s:=abB s a) (fun b hb=>h b (List.mem_cons_of_mem _ hb))
  have h2:=d9V (s:=s) (g:=a) (k:=0) (B:=s.size+c6Z a) (by omega)
  have h3:c6Z a≤1107:=by
   obtain⟨h4,h5⟩:=h a List.mem_cons_self
   unfold c6Z
   omega
  show(b7u (abB s a) l).size≤_
  rw[List.length_cons]
  omega
theorem d4t{s:ByteArray}{x:List G}(h:a5T x):(b3Y s x).size≤s.size+5674:=by
 have h1:=c7M (s:=a5M s x) h.2.2
 have h2:=szH (s:=s) h
 have h3:=h.2.1
 show(b7u (a5M s x) _).size≤_
 omega
theorem c3r: ∀{l:List (List G)} {s:ByteArray},(∀x∈l,a5T x)→(a1T s l).size≤s.size+5674*l.length
 | [],s,_=>by simp[a1T]
 |x::l,s,h=>by
  have h1:=c3r (s:=b3Y s x) (fun b hb=>h b (List.mem_cons_of_mem _ hb))
  have h2:=d4t (s:=s) (h x List.mem_cons_self)
  show(a1T (b3Y s x) l).size≤_
  rw[List.length_cons]
  omega
theorem c3q{es:List (List G)}(h:a5S es)(i:Nat):(a1T (pn ⟨#[]⟩ es.length) (es.take i)).size≤9+5674*i:=by
 have h1:=c3r (s:=pn ⟨#[]⟩ es.length) (l:=es.take i) (fun x hx=>h.2 x (List.mem_of_mem_take hx))
 have h2:(pn (⟨#[]⟩:ByteArray) es.length).size+0≤9:=by
  ((try (with_reducible refine sz0 ?_));repeat (first|with_reducible refine b2q ?_|with_reducible refine b1W ?_|with_reducible refine szn ?_|with_reducible refine d3B ?_|with_reducible refine a2Z ?_|with_reducible refine a2O ?_))
  decide
 have h3:(es.take i).length≤i:=List.length_take_le _ _
 omega
theorem b7e{w:World}(v:Value)(es:List (List G))(hs:a5S es)(ht:TyL (a0O en.psh) [.l v es])(hm:GML w [.l v es]):
  Calls Try.prog 8 ⟨a4T en.psh [.l v es]⟩ w fun e w'=> ∃gs,gs=encR es∧e= .returned (b3D en.rs gs)∧TyL (a0O en.rs) gs∧GML (a0d w' []) gs∧Below w.heap.size w w':=by
 have hes:TyLL a5f es:=by
  obtain⟨v',es',e,h1,_⟩:=c1y (TyL.at ht (j:=0) rfl).choose_spec.2
  have:=(TyL.at ht (j:=0) rfl).choose_spec.1
  rw[e]at this
  cases this
  exact h1
 have hlen:=hs.1
 refine a4J hng plq.mixed (b7z c6T) (b7y (by intro c hc;cases hc)) Try.func8 e0u (fun t σ=>d4w t (∃i:Nat,b7h es=0∧i≤es.length∧σ= [.s (a1T (pn ⟨#[]⟩ es.length) (es.take i)),.l v es,.i .i64 es.length,.i .i64 i]) (∃i j:Nat,b7h es=0∧i<es.length∧ ∃s n1 n2 n3 n4 n5 n6 n7 n8 n9 u us,es.getD i []=cdL s n1 n2 n3 n4 n5 n6 n7 n8 n9 u us∧j≤us.length∧σ= [.s (b7u (a5M (a1T (pn ⟨#[]⟩ es.length) (es.take i)) (es.getD i [])) (us.take j)),.l v es,.i .i64 es.length,.l u us,.i .i64 us.length,.i .i64 j,.i .i64 i])) (fun t σ=>if t=0 then(es.length-(σ.getD 3 .d).int.toNat)*10+9 else(es.length-(σ.getD 6 .d).int.toNat)*10+(8-(σ.getD 5 .d).int.toNat)) (fun gs=>gs=encR es) ?_ ?_ ?_ ?_ ?_ (L:=[]) (by intro b hb;cases hb) ht (by simpa[a0d]using hm)
 ·show wp (Cs C10) e0v _ _
  unfold e0v
  (with_reducible refine a2H ?_ ?_)
  ·simp only[C10,b9m,gG,Cs,List.getD_cons_zero,List.getD_cons_succ,a2J,List.map_cons,List.map_nil]
   exact hs
  simp only[C10,b9m,gG,Cs,List.getD_cons_zero,List.getD_cons_succ,List.cons_append,List.nil_append,a2J,List.map_cons,List.map_nil]
  (with_reducible refine c0F ?_ ?_)
  ·simp only[gG,List.getD_cons_zero,List.getD_cons_succ,a0E]
   intro hz
   repeat (first
    |((with_reducible refine a4N ?_);simp only[gG,List.getD_cons_zero,List.getD_cons_succ,List.cons_append,List.nil_append,a0E])
    |((with_reducible refine a3k ?_);simp only[gG,List.getD_cons_zero,List.cons_append,List.nil_append,a0v])
    |((with_reducible refine a9B ?_);simp only[gG,Cs,List.getD_cons_zero,List.getD_cons_succ,List.getD_nil,List.cons_append,List.nil_append,List.append_nil,a0E,a0W,a1d,a2J,a6r,a0v,a1E,a0t,a1A,a1M,List.length_cons,List.length_nil,List.map_cons,List.map_nil,a3t,a3s,List.tail_cons,Int.toNat_natCast,Nat.zero_add,Nat.reduceAdd,a0f])
    |((with_reducible refine c0G ?_ ?_);(focus (simp only[gG,Cs,List.getD_cons_zero,List.getD_cons_succ,List.getD_nil,List.cons_append,List.nil_append,List.append_nil,a0E,a0W,a1d,a2J,a6r,a0v,a1E,a0t,a1A,a1M,List.length_cons,List.length_nil,List.map_cons,List.map_nil,a3t,a3s,List.tail_cons,Int.toNat_natCast,Nat.zero_add,Nat.reduceAdd,a0f];refine c7L ?_;omega));simp only[gG,Cs,List.getD_cons_zero,List.getD_cons_succ,List.getD_nil,List.cons_append,List.nil_append,List.append_nil,a0E,a0W,a1d,a2J,a6r,a0v,a1E,a0t,a1A,a1M,List.length_cons,List.length_nil,List.map_cons,List.map_nil,a3t,a3s,List.tail_cons,Int.toNat_natCast,Nat.zero_add,Nat.reduceAdd,a0f])
    |((with_reducible refine a2H ?_ ?_);(focus (simp only[a7m,a2f,a8s,gG,Cs,List.getD_cons_zero,List.getD_cons_succ,a0E,a0W,List.map_cons,List.map_nil];((try (with_reducible refine sz0 ?_));repeat (first|with_reducible refine b2q ?_|with_reducible refine b1W ?_|with_reducible refine szn ?_|with_reducible refine d3B ?_|with_reducible refine a2Z ?_|with_reducible refine a2O ?_));first|omega|exact Nat.zero_le _));simp only[a7m,a2f,a8s,gG,Cs,List.getD_cons_zero,List.getD_cons_succ,List.cons_append,List.nil_append,a0E,a0W,List.map_cons,List.map_nil]))
   (with_reducible refine a2G ?_)
   simp only[gG,a4s,allG1,a4z,List.getD_cons_zero,List.getD_cons_succ,a0E]
   rw[b6h]
   refine⟨0,hz,Nat.zero_le _, ?_⟩
   rfl
  ·simp only[gG,List.getD_cons_zero,List.getD_cons_succ,a0E]
   intro hz
   (with_reducible refine a7B ?_)
   simp only[gG,a4s,allG1,b8l,List.getD_cons_zero,List.getD_cons_succ,a0E]
   exact(if_neg hz).symm
 ·simp only[en,List.mem_cons,List.not_mem_nil,or_false]
  rintro q (rfl|rfl) σ hi q j jn ts et n h
  ·exfalso
   revert h
   cases q<;>simp[d6D]
  ·exfalso
   revert h
   cases q<;>simp[d6C]
 ·intro q hq
  cases hq
 ·simp only[en,List.mem_cons,List.not_mem_nil,or_false]
  rintro q (rfl|rfl) σ hty hi
  ·replace hi:=b6h.mp hi
   obtain⟨i,h0,hi,rfl⟩:=hi
   show wp (Cs C10) d2Q _ _
   unfold d2Q
   have hz:=c3q hs i
   (with_reducible refine a9t ?_ ?_)
   ·simp only[gG,List.getD_cons_zero,List.getD_cons_succ,List.getD_nil,a0E,Int.toNat_natCast]
    intro hlt
    have hlt':i<es.length:=by omega
    obtain⟨s,n1,n2,n3,n4,n5,n6,n7,n8,n9,u,us,hx,_⟩:=b4J (TyLL.getD hes hlt')
    have hsm:a5T (es.getD i []):=hs.2 _ (by rw[List.getD_eq_getElem?_getD,List.getElem?_eq_getElem hlt'];exact List.getElem_mem hlt')
    rw[hx]at hsm
    have hnm:s.size≤40:=hsm.1
    have hab:us.length≤5:=hsm.2.1
    (with_reducible refine a9u ?_ ?_ ?_)
    ·simp only[gG,List.getD_cons_zero,List.getD_cons_succ,a0E]
     omega
    ·simp only[gG,List.getD_cons_zero,List.getD_cons_succ,a0E,a0v]
     exact hlt
    simp only[b0s,gG,List.getD_cons_zero,List.getD_cons_succ,List.cons_append,List.nil_append,a0E,a1E,a1M,a3t,a3s,Int.toNat_natCast,Nat.zero_add,Nat.reduceAdd]
    simp only[hx]
    simp only[cdL,List.getD_cons_zero,List.getD_cons_succ]
    repeat (first
     |((with_reducible refine a4N ?_);simp only[gG,List.getD_cons_zero,List.getD_cons_succ,List.cons_append,List.nil_append,a0E])
     |((with_reducible refine a3k ?_);simp only[gG,List.getD_cons_zero,List.getD_cons_succ,List.cons_append,List.nil_append,a0v])
     |((with_reducible refine a9B ?_);simp only[gG,List.getD_cons_zero,List.getD_cons_succ,List.cons_append,List.nil_append,a0W])
     |((with_reducible refine c0G ?_ ?_);(focus (simp only[gG,List.getD_cons_zero,List.getD_cons_succ,a0W];refine c7L ?_;omega));simp only[gG,List.getD_cons_zero,List.getD_cons_succ,List.cons_append,List.nil_append,a0W])
     |((with_reducible refine a2H ?_ ?_);(focus (simp only[C10,a7m,a2f,a8s,gG,Cs,List.getD_cons_zero,List.getD_cons_succ,a0E,a0W,List.map_cons,List.map_nil];((try (with_reducible refine sz0 ?_));repeat (first|with_reducible refine b2q ?_|with_reducible refine b1W ?_|with_reducible refine szn ?_|with_reducible refine d3B ?_|with_reducible refine a2Z ?_|with_reducible refine a2O ?_));first|omega|exact Nat.zero_le _));simp only[C10,a7m,a2f,a8s,gG,Cs,List.getD_cons_zero,List.getD_cons_succ,List.cons_append,List.nil_append,a0E,a0W,List.map_cons,List.map_nil]))
    (with_reducible refine a2G ?_)
    simp only[gG,a4s,allG1,a2t,List.getD_cons_zero,List.getD_cons_succ,a0E,Int.toNat_natCast]
    rw[b6g]
    refine⟨⟨i,0,h0,hlt',s,n1,n2,n3,n4,n5,n6,n7,n8,n9,u,us,hx,Nat.zero_le _, ?_⟩, ?_⟩
    ·rw[hx]
     simp only[List.take_zero,b7u,List.foldl_nil,a5M,pn,cdL,List.getD_cons_zero,List.getD_cons_succ,a0E,a0W,a2J]
     rfl
    ·simp
     try omega
   ·simp only[gG,List.getD_cons_zero,List.getD_cons_succ,List.getD_nil,a0E,Int.toNat_natCast]
    intro hge
    (with_reducible refine a7B ?_)
    simp only[gG,a4s,allG1,a4O,List.getD_cons_zero]
    rw[List.take_of_length_le (by omega)]
    exact(if_pos h0).symm
  ·obtain⟨i,j,h0,hlt,s,n1,n2,n3,n4,n5,n6,n7,n8,n9,u,us,hx,hj,rfl⟩:=b6g.mp hi
   show wp (Cs C10) d2P _ _
   unfold d2P
   have tx:TyL a5f (cdL s n1 n2 n3 n4 n5 n6 n7 n8 n9 u us):=hx▸TyLL.getD hes hlt
   have hus:TyLL b1k us:=by
    obtain⟨s',m1,m2,m3,m4,m5,m6,m7,m8,m9,u',us',e,_,_,_,_,_,_,_,_,_,_,h1,_⟩:=b4J tx
    cases e
    exact h1
   have hsm:a5T (es.getD i []):=hs.2 _ (by rw[List.getD_eq_getElem?_getD,List.getElem?_eq_getElem hlt];exact List.getElem_mem hlt)
   have hab:us.length≤5:=by rw[hx]at hsm;exact hsm.2.1
   have hsA: ∀a∈us,b0D a:=by rw[hx]at hsm;exact hsm.2.2
   have hz:(b7u (a5M (a1T (pn ⟨#[]⟩ es.length) (es.take i)) (es.getD i [])) (us.take j)).size≤9+5674*i+139+1107*j:=by
    have h1:=c7M (l:=us.take j) (s:=a5M (a1T (pn ⟨#[]⟩ es.length) (es.take i)) (es.getD i [])) (fun a ha=>hsA a (List.mem_of_mem_take ha))
    have h2:=szH (s:=a1T (pn ⟨#[]⟩ es.length) (es.take i)) hsm
    have h3:=c3q hs i
    have h4:(us.take j).length≤j:=List.length_take_le _ _
    omega
   (with_reducible refine a9t ?_ ?_)
   ·simp only[gG,List.getD_cons_zero,List.getD_cons_succ,a0E,Int.toNat_natCast]
    intro hjl
    have hjl':j<us.length:=by omega
    obtain⟨m0,m1,m2,m3,m4,m5,m6,m10,m11,m12,tap,tv,cv,tg,code,hy,_⟩:=b4N (TyLL.getD hus hjl')
    have hsa:b0D (us.getD j []):=hsA _ (by rw[List.getD_eq_getElem?_getD,List.getElem?_eq_getElem hjl'];exact List.getElem_mem hjl')
    rw[hy]at hsa
    have htg:tg.length≤5:=hsa.1
    have hcd:code.length≤35:=hsa.2
    (with_reducible refine a9u ?_ ?_ ?_)
    ·simp only[gG,List.getD_cons_zero,List.getD_cons_succ,a0E]
     omega
    ·simp only[gG,List.getD_cons_zero,List.getD_cons_succ,a0E,a0v]
     exact hjl
    simp only[b4p,gG,List.getD_cons_zero,List.getD_cons_succ,List.cons_append,List.nil_append,a0E,a1E,a1M,a3t,a3s,Int.toNat_natCast,Nat.zero_add,Nat.reduceAdd]
    simp only[hy]
    simp only[abL,List.getD_cons_zero,List.getD_cons_succ]
    (with_reducible refine a2H ?_ ?_)
    ·simp only[C10,cAb,c6Z,gG,Cs,List.getD_cons_zero,List.getD_cons_succ,a0E,a0W,a2J,List.map_cons,List.map_nil,a3s,Nat.reduceAdd]
     omega
    simp only[C10,cAb,gG,Cs,List.getD_cons_zero,List.getD_cons_succ,List.cons_append,List.nil_append,a0E,a0W,List.map_cons,List.map_nil,List.tail_cons]
    (with_reducible refine a9v ?_)
    simp only[gG,List.getD_cons_zero,List.getD_cons_succ,List.cons_append,List.nil_append,a0E]
    (with_reducible refine a2G ?_)
    simp only[gG,a4s,allG1,a2t,List.getD_cons_zero,List.getD_cons_succ,a0E,Int.toNat_natCast]
    rw[b6g]
    refine⟨⟨i,j+1,h0,hlt,s,n1,n2,n3,n4,n5,n6,n7,n8,n9,u,us,hx,by omega, ?_⟩, ?_⟩
    ·have e:b7u (a5M (a1T (pn ⟨#[]⟩ es.length) (es.take i)) (es.getD i [])) (us.take (j+1))=abB (b7u (a5M (a1T (pn ⟨#[]⟩ es.length) (es.take i)) (es.getD i [])) (us.take j)) (us.getD j []):=a3L hjl'
     rw[a1H (by omega),e,hy]
     rfl
    ·rw[a1H (by omega)]
     simp
     try omega
   ·simp only[gG,List.getD_cons_zero,List.getD_cons_succ,a0E,Int.toNat_natCast]
    intro hge
    (with_reducible refine a9v ?_)
    simp only[gG,List.getD_cons_zero,List.getD_cons_succ,List.cons_append,List.nil_append,a0E]
    (with_reducible refine a2G ?_)
    simp only[gG,a4s,allG1,a2t,List.getD_cons_zero,List.getD_cons_succ,List.getD_nil,a0E]
    rw[b6h]
    refine⟨⟨i+1,h0,hlt, ?_⟩, ?_⟩
    ·have e:a1T (pn ⟨#[]⟩ es.length) (es.take (i+1))=b3Y (a1T (pn ⟨#[]⟩ es.length) (es.take i)) (es.getD i []):=a3L hlt
     have e2:b3Y (a1T (pn ⟨#[]⟩ es.length) (es.take i)) (es.getD i [])=b7u (a5M (a1T (pn ⟨#[]⟩ es.length) (es.take i)) (es.getD i [])) us:=by
      unfold b3Y
      rw[hx]
      rfl
     rw[a1H (by omega),e,e2,show us.take j=us from List.take_of_length_le (by omega)]
    ·rw[a1H (by omega)]
     simp
     try omega
 ·intro q hq
  cases hq
theorem b4o{w:World}(v:Value)(es:List (List G))(hs:a5S es)(ht:TyL (a0O re.psh) [.l v es])(hm:GML w [.l v es]):
  Calls Try.prog 9 ⟨a4T re.psh [.l v es]⟩ w fun e w'=> ∃gs,gs=encR es∧e= .returned (b3D re.rs gs)∧TyL (a0O re.rs) gs∧GML (a0d w' []) gs∧Below w.heap.size w w':=by
 have hes:TyLL a5f es:=by
  obtain⟨v',es',e,h1,_⟩:=c1y (TyL.at ht (j:=0) rfl).choose_spec.2
  have:=(TyL.at ht (j:=0) rfl).choose_spec.1
  rw[e]at this
  cases this
  exact h1
 have hlen:=hs.1
 refine a4J hng plq.mixed (b7z c6T) (b7y (by intro c hc;cases hc)) Try.func9 e0A (fun t σ=>d4w t (∃i:Nat,b7h es=0∧i≤es.length∧σ= [.l v es,.s (a1T (pn ⟨#[]⟩ es.length) (es.take i)),.i .i64 i]) (∃i j:Nat,b7h es=0∧i<es.length∧ ∃s n1 n2 n3 n4 n5 n6 n7 n8 n9 u us,es.getD i []=cdL s n1 n2 n3 n4 n5 n6 n7 n8 n9 u us∧j≤us.length∧σ= [.l v es,.s (b7u (a5M (a1T (pn ⟨#[]⟩ es.length) (es.take i)) (es.getD i [])) (us.take j)),.s s,.i .i64 n1,.i .i64 n2,.i .i64 n3,.i .i64 n4,.i .i64 n5,.i .i64 n6,.i .i64 n7,.i .i64 n8,.i .i64 n9,.l u us,.i .i64 j,.i .i64 i])) (fun t σ=>if t=0 then(es.length-(σ.getD 2 .d).int.toNat)*10+9 else(es.length-(σ.getD 14 .d).int.toNat)*10+(8-(σ.getD 13 .d).int.toNat)) (fun gs=>gs=encR es) ?_ ?_ ?_ ?_ ?_ (L:=[]) (by intro b hb;cases hb) ht (by simpa[a0d]using hm)
 ·show wp (Cs C10) e0B _ _
  unfold e0B
  (with_reducible refine a2H ?_ ?_)
  ·simp only[C10,b9m,gG,Cs,List.getD_cons_zero,List.getD_cons_succ,a2J,List.map_cons,List.map_nil]
   exact hs
  simp only[C10,b9m,gG,Cs,List.getD_cons_zero,List.getD_cons_succ,List.cons_append,List.nil_append,a2J,List.map_cons,List.map_nil]
  (with_reducible refine c0F ?_ ?_)
  ·simp only[gG,List.getD_cons_zero,List.getD_cons_succ,a0E]
   intro hz
   repeat (first
    |((with_reducible refine a4N ?_);simp only[gG,List.getD_cons_zero,List.getD_cons_succ,List.cons_append,List.nil_append,a0E])
    |((with_reducible refine a3k ?_);simp only[gG,List.getD_cons_zero,List.cons_append,List.nil_append,a0v])
    |((with_reducible refine a9B ?_);simp only[gG,Cs,List.getD_cons_zero,List.getD_cons_succ,List.getD_nil,List.cons_append,List.nil_append,List.append_nil,a0E,a0W,a1d,a2J,a6r,a0v,a1E,a0t,a1A,a1M,List.length_cons,List.length_nil,List.map_cons,List.map_nil,a3t,a3s,List.tail_cons,Int.toNat_natCast,Nat.zero_add,Nat.reduceAdd,a0f])
    |((with_reducible refine c0G ?_ ?_);(focus (simp only[gG,Cs,List.getD_cons_zero,List.getD_cons_succ,List.getD_nil,List.cons_append,List.nil_append,List.append_nil,a0E,a0W,a1d,a2J,a6r,a0v,a1E,a0t,a1A,a1M,List.length_cons,List.length_nil,List.map_cons,List.map_nil,a3t,a3s,List.tail_cons,Int.toNat_natCast,Nat.zero_add,Nat.reduceAdd,a0f];refine c7L ?_;omega));simp only[gG,Cs,List.getD_cons_zero,List.getD_cons_succ,List.getD_nil,List.cons_append,List.nil_append,List.append_nil,a0E,a0W,a1d,a2J,a6r,a0v,a1E,a0t,a1A,a1M,List.length_cons,List.length_nil,List.map_cons,List.map_nil,a3t,a3s,List.tail_cons,Int.toNat_natCast,Nat.zero_add,Nat.reduceAdd,a0f])
    |((with_reducible refine a2H ?_ ?_);(focus (simp only[a7m,a2f,a8s,gG,Cs,List.getD_cons_zero,List.getD_cons_succ,a0E,a0W,List.map_cons,List.map_nil];((try (with_reducible refine sz0 ?_));repeat (first|with_reducible refine b2q ?_|with_reducible refine b1W ?_|with_reducible refine szn ?_|with_reducible refine d3B ?_|with_reducible refine a2Z ?_|with_reducible refine a2O ?_));first|omega|exact Nat.zero_le _));simp only[a7m,a2f,a8s,gG,Cs,List.getD_cons_zero,List.getD_cons_succ,List.cons_append,List.nil_append,a0E,a0W,List.map_cons,List.map_nil]))
   (with_reducible refine a2G ?_)
   simp only[gG,a4s,allG1,a4z,List.getD_cons_zero,List.getD_cons_succ]
   rw[b6h]
   refine⟨0,hz,Nat.zero_le _, ?_⟩
   rfl
  ·simp only[gG,List.getD_cons_zero,List.getD_cons_succ,a0E]
   intro hz
   (with_reducible refine a7B ?_)
   simp only[gG,a4s,allG1,b8l,List.getD_cons_zero,List.getD_cons_succ,a0E]
   exact(if_neg hz).symm
 ·simp only[re,List.mem_cons,List.not_mem_nil,or_false]
  rintro q (rfl|rfl) σ hi q j jn ts et n h
  ·exfalso
   revert h
   cases q<;>simp[d5O]
  ·exfalso
   revert h
   cases q<;>simp[d5N]
 ·intro q hq
  cases hq
 ·simp only[re,List.mem_cons,List.not_mem_nil,or_false]
  rintro q (rfl|rfl) σ hty hi
  ·replace hi:=b6h.mp hi
   obtain⟨i,h0,hi,rfl⟩:=hi
   show wp (Cs C10) d1M _ _
   unfold d1M
   have hz:=c3q hs i
   (with_reducible refine a3k ?_)
   simp only[gG,List.getD_cons_zero,List.getD_cons_succ,List.getD_nil,List.cons_append,List.nil_append,a0E,a0v,Int.toNat_natCast]
   (with_reducible refine a9t ?_ ?_)
   ·simp only[gG,List.getD_cons_zero,List.getD_cons_succ,a0E]
    intro hlt
    have hlt':i<es.length:=by omega
    obtain⟨s,n1,n2,n3,n4,n5,n6,n7,n8,n9,u,us,hx,_⟩:=b4J (TyLL.getD hes hlt')
    have hsm:a5T (es.getD i []):=hs.2 _ (by rw[List.getD_eq_getElem?_getD,List.getElem?_eq_getElem hlt'];exact List.getElem_mem hlt')
    rw[hx]at hsm
    have hnm:s.size≤40:=hsm.1
    have hab:us.length≤5:=hsm.2.1
    (with_reducible refine a9u ?_ ?_ ?_)
    ·simp only[gG,List.getD_cons_zero,List.getD_cons_succ,a0E]
     omega
    ·simp only[gG,List.getD_cons_zero,List.getD_cons_succ,a0E,a0v]
     exact hlt
    simp only[b0s,gG,List.getD_cons_zero,List.getD_cons_succ,List.cons_append,List.nil_append,a0E,a1E,a1M,a3t,a3s,Int.toNat_natCast,Nat.zero_add,Nat.reduceAdd]
    simp only[hx]
    simp only[cdL,List.getD_cons_zero,List.getD_cons_succ]
    repeat (first
     |((with_reducible refine a4N ?_);simp only[gG,List.getD_cons_zero,List.getD_cons_succ,List.cons_append,List.nil_append,a0E])
     |((with_reducible refine a3k ?_);simp only[gG,List.getD_cons_zero,List.getD_cons_succ,List.cons_append,List.nil_append,a0v])
     |((with_reducible refine a9B ?_);simp only[gG,List.getD_cons_zero,List.getD_cons_succ,List.cons_append,List.nil_append,a0W])
     |((with_reducible refine c0G ?_ ?_);(focus (simp only[gG,List.getD_cons_zero,List.getD_cons_succ,a0W];refine c7L ?_;omega));simp only[gG,List.getD_cons_zero,List.getD_cons_succ,List.cons_append,List.nil_append,a0W])
     |((with_reducible refine a2H ?_ ?_);(focus (simp only[C10,a7m,a2f,a8s,gG,Cs,List.getD_cons_zero,List.getD_cons_succ,a0E,a0W,List.map_cons,List.map_nil];((try (with_reducible refine sz0 ?_));repeat (first|with_reducible refine b2q ?_|with_reducible refine b1W ?_|with_reducible refine szn ?_|with_reducible refine d3B ?_|with_reducible refine a2Z ?_|with_reducible refine a2O ?_));first|omega|exact Nat.zero_le _));simp only[C10,a7m,a2f,a8s,gG,Cs,List.getD_cons_zero,List.getD_cons_succ,List.cons_append,List.nil_append,a0E,a0W,List.map_cons,List.map_nil]))
    (with_reducible refine a2G ?_)
    simp only[gG,a4s,allG1,a2t,List.getD_cons_zero,List.getD_cons_succ,a0E,Int.toNat_natCast]
    rw[b6g]
    refine⟨⟨i,0,h0,hlt',s,n1,n2,n3,n4,n5,n6,n7,n8,n9,u,us,hx,Nat.zero_le _, ?_⟩, ?_⟩
    ·rw[hx]
     simp only[List.take_zero,b7u,List.foldl_nil,a5M,pn,cdL,List.getD_cons_zero,List.getD_cons_succ,a0E,a0W,a2J]
     rfl
    ·simp
     try omega
   ·simp only[gG,List.getD_cons_zero,List.getD_cons_succ,a0E]
    intro hge
    (with_reducible refine a7B ?_)
    simp only[gG,a4s,allG1,a4O,List.getD_cons_zero,List.getD_cons_succ]
    rw[List.take_of_length_le (by omega)]
    exact(if_pos h0).symm
  ·obtain⟨i,j,h0,hlt,s,n1,n2,n3,n4,n5,n6,n7,n8,n9,u,us,hx,hj,rfl⟩:=b6g.mp hi
   show wp (Cs C10) d1L _ _
   unfold d1L
   have tx:TyL a5f (cdL s n1 n2 n3 n4 n5 n6 n7 n8 n9 u us):=hx▸TyLL.getD hes hlt
   have hus:TyLL b1k us:=by
    obtain⟨s',m1,m2,m3,m4,m5,m6,m7,m8,m9,u',us',e,_,_,_,_,_,_,_,_,_,_,h1,_⟩:=b4J tx
    cases e
    exact h1
   have hsm:a5T (es.getD i []):=hs.2 _ (by rw[List.getD_eq_getElem?_getD,List.getElem?_eq_getElem hlt];exact List.getElem_mem hlt)
   have hab:us.length≤5:=by rw[hx]at hsm;exact hsm.2.1
   have hsA: ∀a∈us,b0D a:=by rw[hx]at hsm;exact hsm.2.2
   have hz:(b7u (a5M (a1T (pn ⟨#[]⟩ es.length) (es.take i)) (es.getD i [])) (us.take j)).size≤9+5674*i+139+1107*j:=by
    have h1:=c7M (l:=us.take j) (s:=a5M (a1T (pn ⟨#[]⟩ es.length) (es.take i)) (es.getD i [])) (fun a ha=>hsA a (List.mem_of_mem_take ha))
    have h2:=szH (s:=a1T (pn ⟨#[]⟩ es.length) (es.take i)) hsm
    have h3:=c3q hs i
    have h4:(us.take j).length≤j:=List.length_take_le _ _
    omega
   (with_reducible refine a3k ?_)
   simp only[gG,List.getD_cons_zero,List.getD_cons_succ,List.cons_append,List.nil_append,a0E,a0v,Int.toNat_natCast]
   (with_reducible refine a9t ?_ ?_)
   ·simp only[gG,List.getD_cons_zero,List.getD_cons_succ,a0E]
    intro hjl
    have hjl':j<us.length:=by omega
    obtain⟨m0,m1,m2,m3,m4,m5,m6,m10,m11,m12,tap,tv,cv,tg,code,hy,_⟩:=b4N (TyLL.getD hus hjl')
    have hsa:b0D (us.getD j []):=hsA _ (by rw[List.getD_eq_getElem?_getD,List.getElem?_eq_getElem hjl'];exact List.getElem_mem hjl')
    rw[hy]at hsa
    have htg:tg.length≤5:=hsa.1
    have hcd:code.length≤35:=hsa.2
    (with_reducible refine a9u ?_ ?_ ?_)
    ·simp only[gG,List.getD_cons_zero,List.getD_cons_succ,a0E]
     omega
    ·simp only[gG,List.getD_cons_zero,List.getD_cons_succ,a0E,a0v]
     exact hjl
    simp only[b4p,gG,List.getD_cons_zero,List.getD_cons_succ,List.cons_append,List.nil_append,a0E,a1E,a1M,a3t,a3s,Int.toNat_natCast,Nat.zero_add,Nat.reduceAdd]
    simp only[hy]
    simp only[abL,List.getD_cons_zero,List.getD_cons_succ]
    (with_reducible refine a2H ?_ ?_)
    ·simp only[C10,cAb,c6Z,gG,Cs,List.getD_cons_zero,List.getD_cons_succ,a0E,a0W,a2J,List.map_cons,List.map_nil,a3s,Nat.reduceAdd]
     omega
    simp only[C10,cAb,gG,Cs,List.getD_cons_zero,List.getD_cons_succ,List.cons_append,List.nil_append,a0E,a0W,List.map_cons,List.map_nil,List.tail_cons]
    (with_reducible refine a9v ?_)
    simp only[gG,List.getD_cons_zero,List.getD_cons_succ,List.cons_append,List.nil_append,a0E]
    (with_reducible refine a2G ?_)
    simp only[gG,a4s,allG1,a2t,List.getD_cons_zero,List.getD_cons_succ,a0E,Int.toNat_natCast]
    rw[b6g]
    refine⟨⟨i,j+1,h0,hlt,s,n1,n2,n3,n4,n5,n6,n7,n8,n9,u,us,hx,by omega, ?_⟩, ?_⟩
    ·have e:b7u (a5M (a1T (pn ⟨#[]⟩ es.length) (es.take i)) (es.getD i [])) (us.take (j+1))=abB (b7u (a5M (a1T (pn ⟨#[]⟩ es.length) (es.take i)) (es.getD i [])) (us.take j)) (us.getD j []):=a3L hjl'
     rw[a1H (by omega),e,hy]
     rfl
    ·rw[a1H (by omega)]
     simp
     try omega
   ·simp only[gG,List.getD_cons_zero,List.getD_cons_succ,a0E]
    intro hge
    (with_reducible refine a9v ?_)
    simp only[gG,List.getD_cons_zero,List.getD_cons_succ,List.cons_append,List.nil_append,a0E]
    (with_reducible refine a2G ?_)
    simp only[gG,a4s,allG1,a2t,List.getD_cons_zero,List.getD_cons_succ,List.getD_nil,a0E]
    rw[b6h]
    refine⟨⟨i+1,h0,hlt, ?_⟩, ?_⟩
    ·have e:a1T (pn ⟨#[]⟩ es.length) (es.take (i+1))=b3Y (a1T (pn ⟨#[]⟩ es.length) (es.take i)) (es.getD i []):=a3L hlt
     have e2:b3Y (a1T (pn ⟨#[]⟩ es.length) (es.take i)) (es.getD i [])=b7u (a5M (a1T (pn ⟨#[]⟩ es.length) (es.take i)) (es.getD i [])) us:=by
      unfold b3Y
      rw[hx]
      rfl
     rw[a1H (by omega),e,e2,show us.take j=us from List.take_of_length_le (by omega)]
    ·rw[a1H (by omega)]
     simp
     try omega
 ·intro q hq
  cases hq
end
end Go.Proofs.Ytmmmknhdigapkaa.poolLays
namespace Go.Proofs.Ytmmmknhdigapkaa.poolLays
open Go.Ev Go.RowKit Go.Proofs.Ytmmmknhdigapkaa.plq
set_option linter.unusedVariables false
noncomputable section
def e0y(v:Value)(es:List (List G))(t:Nat)(σ:List G):Prop:=
 d4w t (∃(i:Nat) (b:Bool) (out:List (List G)),i≤42∧out.length≤i∧(∀x∈out,a5T x)∧σ= [.l v es,.w out,.b b,.i .i64 i])
  (∃(i k:Nat) (b b1:Bool) (out ab:List (List G)) (nm:ByteArray) (n1 n2 n3 n4 n5 n6 n7 n8 n9:Int) (A:G),i<42∧k≤5∧out.length≤i∧(∀x∈out,a5T x)∧ab.length≤k∧(∀x∈ab,b0D x)∧nm.size≤40∧
   σ= [.l v es,.s nm,.i .i64 n1,.i .i64 n2,.i .i64 n3,.i .i64 n4,.i .i64 n5,.i .i64 n6,.i .i64 n7,.i .i64 n8,.i .i64 n9,A,.w ab,.b b1,.i .i64 k,.i .i64 i,.w out,.b b])
theorem e2h{v:Value}{es out:List (List G)}{i:Nat}{b:Bool}(h1:i≤42)(h2:out.length≤i)(h3: ∀x∈out,a5T x):e0y v es 0 [.l v es,.w out,.b b,.i .i64 i]:=⟨i,b,out,h1,h2,h3,rfl⟩
theorem e2g{v:Value}{es out ab:List (List G)}{i k:Nat}{b b1:Bool}{nm:ByteArray}{n1 n2 n3 n4 n5 n6 n7 n8 n9:Int}{A:G}(h1:i<42)(h2:k≤5)(h3:out.length≤i)(h4: ∀x∈out,a5T x)(h5:ab.length≤k)(h6: ∀x∈ab,b0D x)(h7:nm.size≤40):
  e0y v es 1 [.l v es,.s nm,.i .i64 n1,.i .i64 n2,.i .i64 n3,.i .i64 n4,.i .i64 n5,.i .i64 n6,.i .i64 n7,.i .i64 n8,.i .i64 n9,A,.w ab,.b b1,.i .i64 k,.i .i64 i,.w out,.b b]:=
 ⟨i,k,b,b1,out,ab,nm,n1,n2,n3,n4,n5,n6,n7,n8,n9,A,h1,h2,h3,h4,h5,h6,h7,rfl⟩
def d2V:Nat→List G→Nat
 |0,σ=>(42-(σ.getD 3 .d).int.toNat)*10+9
 |_+1,σ=>(42-(σ.getD 15 .d).int.toNat)*10+(8-(σ.getD 14 .d).int.toNat)
theorem c0V{l:List (List G)}{x:List G}{k:Nat}(h:l.length≤k):(l++ [x]).length≤k+1:=by simp;exact h
theorem b4i{p:List G→Prop}{l:List (List G)}{x:List G}(h: ∀y∈l,p y)(hx:p x): ∀y∈l++ [x],p y:=fun y hy=>by
 rcases List.mem_append.1 hy with hy|hy
 ·exact h y hy
 ·rw[List.mem_singleton.1 hy]
  exact hx
theorem c4e{x:List G}{k:Nat}:[x].length≤k+1:=by simp
theorem b8s{p:List G→Prop}{x:List G}(hx:p x): ∀y∈ [x],p y:=fun y hy=>by
 rw[List.mem_singleton.1 hy]
 exact hx
theorem a7W{p:List G→Prop}: ∀y∈([]:List (List G)),p y:=fun y hy=>by cases hy
theorem b0m{l:List (List G)}{n m:Int}(hm:0≤m):((l.drop (Int.toNat 0)).take ((if m<n then m else n).toNat-Int.toNat 0)).length≤m.toNat:=by
 rw[List.length_take]
 have:(if m<n then m else n)≤m:=by split<;>omega
 omega
theorem d2J{s:ByteArray}{n:Int}:(s.extract (Int.toNat 0) (if 40<n then 40 else n).toNat).size≤40:=by
 rw[ByteArray.size_extract]
 have:(if 40<n then 40 else n)≤40:=by split<;>omega
 omega
theorem c5B{g:G}:0≤g.len:=by unfold G.len;omega
set_option maxHeartbeats 1000000 in
theorem c5p{w:World}(v:Value)(es:List (List G)){L:List Nat}(hL: ∀b∈L,b<w.heap.size)(ht:TyL (a0O cu.psh) [.l v es])(hm:GML (a0d w L) [.l v es]):
  Calls Try.prog 7 ⟨a4T cu.psh [.l v es]⟩ w fun e w'=> ∃gs,(∃v' es',gs= [.l v' es']∧a5S es')∧e= .returned (b3D cu.rs gs)∧TyL (a0O cu.rs) gs∧GML (a0d w' L) gs∧Below w.heap.size w w':=by
 refine a4J hng plq.mixed (b7z (by intro c hc;cases hc)) (b7y (by intro c hc;cases hc)) Try.func7 e0z (e0y v es) d2V (fun gs=> ∃v' es',gs= [.l v' es']∧a5S es') ?_ ?_ ?_ ?_ ?_ hL ht hm
 ·show wp (Cs []) e1A _ _
  unfold e1A
  (with_reducible refine a2G ?_)
  simp only[gG,a4s,allG1,allGG,a4z,List.getD_cons_zero,List.append_nil,a0t]
  exact e2h (i:=0) (by omega) (Nat.zero_le _) a7W
 ·simp only[cu,List.mem_cons,List.not_mem_nil,or_false]
  rintro q (rfl|rfl) σ hi q j jn ts et n h
  ·obtain⟨i,b,out,h1,h2,h3,rfl⟩:=b6h.mp hi
   match q,h with
   |0,h=>
    cases h
    show((out.length:Nat):Int)≤((42:Nat):Int)
    omega
   |q+1,h=>simp[d6G]at h
  ·obtain⟨i,k,b,b1,out,ab,nm,n1,n2,n3,n4,n5,n6,n7,n8,n9,A,h1,h2,h3,h4,h5,h6,h7,rfl⟩:=b6g.mp hi
   match q,h with
   |0,h=>cases h
   |1,h=>
    cases h
    show((ab.length:Nat):Int)≤((42:Nat):Int)
    omega
   |2,h=>
    cases h
    show((out.length:Nat):Int)≤((42:Nat):Int)
    omega
   |q+3,h=>simp[d6F]at h
 ·intro q hq
  cases hq
 ·simp only[cu,List.mem_cons,List.not_mem_nil,or_false]
  rintro q (rfl|rfl) σ hty hi
  ·obtain⟨i,b,out,h1,h2,h3,rfl⟩:=b6h.mp hi
   show wp (Cs []) d2X _ _
   unfold d2X
   clear hi hty
   repeat' (first
    |((with_reducible refine c7B ?_ ?_)<;>(simp only[List.getD_cons_zero,List.getD_cons_succ,a1d];intro _))
    |((with_reducible refine a9t ?_ ?_)<;>(simp only[gG,List.getD_cons_zero,List.getD_cons_succ,a0E];intro _))
    |((with_reducible refine a3k ?_);simp only[gG,List.getD_cons_zero,List.cons_append,List.nil_append,a0v])
    |((with_reducible refine a9B ?_);simp only[gG,List.getD_cons_zero,List.getD_cons_succ,List.cons_append,List.nil_append])
    |((with_reducible refine d4S ?_);simp only[gG,List.getD_cons_zero,List.getD_cons_succ,List.cons_append,List.nil_append,a0E])
    |((with_reducible refine a9v ?_);simp only[gG,Cs,List.getD_cons_zero,List.getD_cons_succ,List.getD_nil,List.cons_append,List.nil_append,List.append_nil,a0E,a0W,a1d,a2J,a6r,a0v,a1E,a0t,a1A,a1M,List.length_cons,List.length_nil,List.map_cons,List.map_nil,a3t,a3s,List.tail_cons,Int.toNat_natCast,Nat.zero_add,Nat.reduceAdd,a0f])
    |((with_reducible refine a9u ?_ ?_ ?_);(focus (simp only[gG,List.getD_cons_zero,List.getD_cons_succ,a0E];omega));(focus (simp only[gG,List.getD_cons_zero,List.getD_cons_succ,a0E,a0v];omega));simp only[b0s,gG,List.getD_cons_zero,List.getD_cons_succ,List.cons_append,List.nil_append,a0E,a1E,a1M,a3t,a3s,Int.toNat_natCast,Nat.zero_add,Nat.reduceAdd])
    |((with_reducible refine c3Z ?_ ?_ ?_ ?_);(focus (simp only[gG,a0E];omega));(focus (simp only[gG,List.getD_cons_zero,List.getD_cons_succ,a0E];split<;>omega));(focus (simp only[gG,List.getD_cons_zero,List.getD_cons_succ,a0E];split<;>omega));simp only[gG,List.getD_cons_zero,List.getD_cons_succ,List.cons_append,List.nil_append,a0E])
    |((with_reducible refine a2G ?_);simp only[gG,a4s,allG1,allGG,a2t,List.getD_cons_zero,List.getD_cons_succ,List.append_nil,a0E,a6r,a0t,a1A])
    |((with_reducible refine a7B ?_);simp only[gG,a4s,allG1,allGG,a4O,List.getD_cons_zero,List.getD_cons_succ,List.append_nil,a6r]))
   all_goals first
    |(intro v1;exact⟨v1,out,rfl,Nat.le_trans h2 h1,h3⟩)
    |exact⟨_,_,rfl,Nat.zero_le _,a7W⟩
    |(refine⟨e2g (i:=i) (k:=0) (by omega) (by omega) (by first|exact Nat.zero_le _|exact h2) (by first|exact a7W|exact h3) (Nat.zero_le _) a7W d2J, ?_⟩;simp[d2V,G.int])
  ·obtain⟨i,k,b,b1,out,ab,nm,n1,n2,n3,n4,n5,n6,n7,n8,n9,A,h1,h2,h3,h4,h5,h6,h7,rfl⟩:=b6g.mp hi
   show wp (Cs []) d2W _ _
   unfold d2W
   clear hi hty
   have hA:=c5B (g:=A)
   repeat' (first
    |((with_reducible refine c7B ?_ ?_)<;>(simp only[List.getD_cons_zero,List.getD_cons_succ,a1d];intro _))
    |((with_reducible refine a9t ?_ ?_)<;>(simp only[gG,List.getD_cons_zero,List.getD_cons_succ,a0E];intro _))
    |((with_reducible refine a3k ?_);simp only[gG,List.getD_cons_zero,List.getD_cons_succ,List.cons_append,List.nil_append])
    |((with_reducible refine a9B ?_);simp only[gG,Cs,List.getD_cons_zero,List.getD_cons_succ,List.getD_nil,List.cons_append,List.nil_append,List.append_nil,a0E,a0W,a1d,a2J,a6r,a0v,a1E,a0t,a1A,a1M,List.length_cons,List.length_nil,List.map_cons,List.map_nil,a3t,a3s,List.tail_cons,Int.toNat_natCast,Nat.zero_add,Nat.reduceAdd,a0f])
    |((with_reducible refine d4S ?_);simp only[gG,List.getD_cons_zero,List.getD_cons_succ,List.cons_append,List.nil_append,a0E])
    |((with_reducible refine a9v ?_);simp only[gG,List.getD_cons_zero,List.getD_cons_succ,List.cons_append,List.nil_append,a0E])
    |((with_reducible refine a9u ?_ ?_ ?_);(focus (simp only[gG,List.getD_cons_zero,List.getD_cons_succ,a0E];omega));(focus (simp only[gG,List.getD_cons_zero,List.getD_cons_succ,a0E];omega));simp only[b4p,gG,List.getD_cons_zero,List.getD_cons_succ,List.cons_append,List.nil_append,a0E,a1M,a3t,a3s,Nat.zero_add,Nat.reduceAdd])
    |((with_reducible refine d4T ?_ ?_ ?_ ?_);(focus (simp only[a0f];omega));(focus (simp only[gG,List.getD_cons_zero,List.getD_cons_succ,a0E,a0f];have:=c5B (g:=((d2R A k).getD 8 .d));have:=c5B (g:=((d2R A k).getD 9 .d));split<;>omega));(focus (simp only[gG,List.getD_cons_zero,List.getD_cons_succ,a0E,a0f];split<;>omega));simp only[gG,List.getD_cons_zero,List.getD_cons_succ,List.cons_append,List.nil_append,a0E,List.length_cons,List.length_nil,Nat.zero_add,a0f])
    |((with_reducible refine a2G ?_);simp only[gG,a4s,allG1,allGG,a2t,List.getD_cons_zero,List.getD_cons_succ,List.nil_append,List.append_nil,a0E,a6r,a0t,a1A])
    |((with_reducible refine a7B ?_);simp only[gG,a4s,allG1,allGG,a4z,b8l,a2t,a4O,List.getD_cons_zero,List.getD_cons_succ,List.getD_nil,List.cons_append,List.nil_append,List.append_nil,a0E,a0W,a1d,a2J,a6r,a0v,a1E,a0t,a1A,a1M,List.length_cons,List.length_nil,List.map_cons,List.map_nil,a3t,a3s,List.tail_cons,Int.toNat_natCast,Nat.zero_add,Nat.reduceAdd,a0f]))
   all_goals intros
   all_goals rw[a1H (by omega)]
   all_goals refine⟨?_, ?_⟩
   all_goals first
    |exact e2g (i:=i) (k:=k+1) (by omega) (by omega) (by first|exact h3|exact Nat.zero_le _) (by first|exact h4|exact a7W) (by first|exact c0V h5|exact c4e) (by first|exact b4i h6 ⟨b0m (m:=5) (by omega),b0m (m:=35) (by omega)⟩|exact b8s ⟨b0m (m:=5) (by omega),b0m (m:=35) (by omega)⟩) h7
    |exact e2h (i:=i+1) (by omega) (by first|exact c0V h3|exact c4e) (by first|exact b4i h4 ⟨h7,Nat.le_trans h5 h2,h6⟩|exact b4i h4 ⟨h7,Nat.zero_le _,a7W⟩|exact b8s ⟨h7,Nat.le_trans h5 h2,h6⟩|exact b8s ⟨h7,Nat.zero_le _,a7W⟩)
    |(simp only[d2V,List.getD_cons_succ,List.getD_cons_zero,a0E,Int.toNat_natCast];omega)
 ·intro q hq
  cases hq
end
end Go.Proofs.Ytmmmknhdigapkaa.poolLays
namespace Go.Proofs.Ytmmmknhdigapkaa.poolLays
open Go.Ev Go.RowKit Go.Proofs.Ytmmmknhdigapkaa.plq
set_option linter.unusedVariables false
noncomputable section
def e0e:Vt:=(.goto 1001001 [] [(.v (.sym 0))])
def b2A:Sig:=⟨[(.l a5f)],[(7,(.d 0))],[]⟩
def a7Z:Vt:=(.call 10 [(.sym 1)]
(.call 11 [(.sym 1)]
(.call 8 [(.sym 1)]
(.call 9 [(.sym 1)]
(.eql (.sint .i64 6) (.sint .i64 7)
(.eqs (.sym 2) (.sym 4)
(.eql (.sint .i64 3) (.sint .i64 5)
(.call 12 []
(.ret [(.v (.sym 8))]))
(.ret [(.v (.bool false))]))
(.ret [(.v (.bool false))]))
(.ret [(.v (.bool false))]))))))
def b2B:MdE:=⟨1,1,0,[(.sym 0)],b2A,a7Z⟩
def la:FnV:=⟨[(.d (.l a5f))],[(.d .b)],[],[(1,1)],e0e,[],[(1001001,b2B)]⟩
def c8d(f:FuncId):Ct:=⟨f,[.d (.l a5f)],[.d .s,.d (.i .i64)],fun gs=>a5S (gs.getD 0 .d).es,fun gs=>encR (gs.getD 0 .d).es⟩
def d3T:Ct:=⟨12,[],[.d .b],fun _=>True,fun _=>[.b true]⟩
def e2p:Cf:=⟨7,[.d (.l a5f)],[.d (.l a5f)],fun _=>True,fun _ us=> ∃v es,us= [.l v es]∧a5S es⟩
theorem d6N(es:List (List G)):TyOK (.i .i64) (.i .i64 (b7h es)):=by
 show IntKind.i64=IntKind.i64∧_
 refine⟨rfl, ?_⟩
 show(-9223372036854775808:Int)≤_∧_≤(9223372036854775807:Int)
 rcases c5t es with h|h|h|h|h<;>rw[h]<;>decide
theorem d6A{f:FuncId}(h: ∀{w:World} (v:Value) (es:List (List G)),a5S es→TyL [.l a5f] [.l v es]→GML w [.l v es]→Calls Try.prog f ⟨a4T [.d (.l a5f)] [.l v es]⟩ w fun e w'=> ∃gs,gs=encR es∧e= .returned (b3D [.d .s,.d (.i .i64)] gs)∧TyL [.s,.i .i64] gs∧GML (a0d w' []) gs∧Below w.heap.size w w'):CtOK Try.prog (c8d f):=by
 refine⟨rfl,fun gs ht hp=> ?_,fun w gs ht hm hp=> ?_⟩
 ·have hp':a5S (gs.getD 0 .d).es:=hp
  show TyL [.s,.i .i64] (encR (gs.getD 0 .d).es)
  unfold encR
  split
  ·have h1:=c3q hp' (gs.getD 0 .d).es.length
   rw[List.take_of_length_le (Nat.le_refl _)]at h1
   have h2:(d6B (gs.getD 0 .d).es).size≤9223372036854775807:=by
    have:=hp'.1
    unfold d6B
    omega
   refine⟨?_,⟨rfl,by decide,by decide⟩,trivial⟩
   show((d6B (gs.getD 0 .d).es).size:Int)≤9223372036854775807
   exact Int.ofNat_le.2 h2
  ·refine⟨?_,d6N _,trivial⟩
   show((0:Nat):Int)≤9223372036854775807
   decide
 ·obtain⟨g,l,rfl,t,h0⟩:=tyC ht
  obtain⟨v,es,rfl,e1,e2⟩:=c1y t
  obtain rfl:=tyN h0
  refine(h v es hp ht hm).mono ?_
  rintro e w' ⟨gs,rfl,he,_,_,hb⟩
  exact⟨he,hb⟩
def C13:List Ct:=[a7m 35,a7m 37,a8s 54,a8s 38,a2f 17,a2f 20,cAb 19,cAb 22,b9m 10,b9m 11,c8d 8,c8d 9,d3T]
theorem d6t: ∀c∈C13,CtOK Try.prog c:=by
 intro c hc
 rw[show C13=C10++ [c8d 8,c8d 9,d3T]from rfl,List.mem_append]at hc
 rcases hc with hc|hc
 ·exact c6T c hc
 ·simp only[List.mem_cons,List.not_mem_nil,or_false]at hc
  rcases hc with rfl|rfl|rfl
  ·exact d6A fun v es hs ht hm=>b7e v es hs ht hm
  ·exact d6A fun v es hs ht hm=>b4o v es hs ht hm
  ·refine⟨rfl,fun gs ht hp=>⟨trivial,trivial⟩,fun w gs ht hm hp=> ?_⟩
   obtain rfl:=tyN ht
   exact d8d w
theorem e1R: ∀c∈ [e2p],CfOK Try.prog c:=by
 intro c hc
 rw[List.mem_singleton.1 hc]
 refine⟨fun t ht=> ?_,fun w gs L hL ht hm hp=> ?_⟩
 ·rw[List.mem_singleton.1 ht]
  rfl
 ·obtain⟨g,l,rfl,t,h0⟩:=tyC ht
  obtain⟨v,es,rfl,e1,e2⟩:=c1y t
  obtain rfl:=tyN h0
  exact c5p v es hL ht hm
theorem e0d:b3V Try.prog (Cs C13) (Ds [e2p]) Try.f3 la=true:=by kernel_rfl
theorem c5D{w:World}(v:Value)(es:List (List G))(ht:TyL [.l a5f] [.l v es])(hm:GML w [.l v es]):
  Calls Try.prog 3 ⟨[v]⟩ w fun e w'=>e= .returned (.bool true)∧Below w.heap.size w w':=by
 refine(a4J hng plq.mixed (b7z d6t) (b7y e1R) Try.func3 e0d (fun t σ=>σ= [.l v es]) (fun t σ=>0) (fun gs=>gs= [.b true]) ?_ ?_ ?_ ?_ ?_ (L:=[]) (by intro b hb;cases hb) ht (by simpa[a0d]using hm):Calls Try.prog 3 ⟨a4T la.psh [.l v es]⟩ w _).mono ?_
 ·show wp (Cs C13) e0e _ _
  unfold e0e
  (with_reducible refine a2G ?_)
  simp only[gG,a4s,allG1,a4z,List.getD_cons_zero]
 ·intro q hq
  cases hq
 ·simp only[la,List.mem_singleton]
  rintro q rfl σ hi q j jn ts et n h
  simp[b2B,b2A]at h
 ·intro q hq
  cases hq
 ·simp only[la,List.mem_singleton]
  rintro q rfl σ hty rfl
  refine⟨trivial,fun us hus htu=> ?_⟩
  obtain⟨v',es',rfl,hs⟩: ∃v es,us= [.l v es]∧a5S es:=hus
  show wp (Cs C13) a7Z _ _
  unfold a7Z
  by_cases hz:b7h es'=0
  ·have e:encR es'= [.s (d6B es'),.i .i64 0]:=if_pos hz
   repeat' (first
    |((with_reducible refine a2H ?_ ?_);(focus (first|exact trivial|(simp only[C13,c8d,b9m,d3T,gG,Cs,List.getD_cons_zero,List.getD_cons_succ,List.cons_append,List.nil_append,a2J,List.map_cons,List.map_nil];exact hs)));simp only[C13,c8d,b9m,d3T,e,gG,Cs,List.getD_cons_zero,List.getD_cons_succ,List.cons_append,List.nil_append,a2J,List.map_cons,List.map_nil])
    |((with_reducible refine c0F ?_ ?_)<;>(simp only[gG,List.getD_cons_zero,List.getD_cons_succ,a0E];intro _))
    |((with_reducible refine c9A ?_ ?_)<;>(simp only[gG,List.getD_cons_zero,List.getD_cons_succ,a0W];intro _))
    |((with_reducible refine a7B ?_);simp only[gG,a4s,allG1,a4O,List.getD_cons_zero,List.getD_cons_succ]))
   all_goals first|rfl|contradiction
  ·have e:encR es'= [.s ⟨#[]⟩,.i .i64 (b7h es')]:=if_neg hz
   repeat' (first
    |((with_reducible refine a2H ?_ ?_);(focus (first|exact trivial|(simp only[C13,c8d,b9m,d3T,gG,Cs,List.getD_cons_zero,List.getD_cons_succ,List.cons_append,List.nil_append,a2J,List.map_cons,List.map_nil];exact hs)));simp only[C13,c8d,b9m,d3T,e,gG,Cs,List.getD_cons_zero,List.getD_cons_succ,List.cons_append,List.nil_append,a2J,List.map_cons,List.map_nil])
    |((with_reducible refine c0F ?_ ?_)<;>(simp only[gG,List.getD_cons_zero,List.getD_cons_succ,a0E];intro _))
    |((with_reducible refine c9A ?_ ?_)<;>(simp only[gG,List.getD_cons_zero,List.getD_cons_succ,a0W];intro _))
    |((with_reducible refine a7B ?_);simp only[gG,a4s,allG1,a4O,List.getD_cons_zero,List.getD_cons_succ]))
   all_goals first|rfl|contradiction
 ·rintro e w' ⟨gs,rfl,he,_,_,hb⟩
  exact⟨he,hb⟩
end
end Go.Proofs.Ytmmmknhdigapkaa.poolLays
