/-
  Chapter 28: the answer's has, name, at.
-/
import Derived.Test.YtcblehiddfnafaaTxD
import Derived.OpenShut
import Derived.Deep.Slices
namespace Go.Proofs.Ytcblehiddfnafaa.canonSame
open Go.Shelf Go.RowKit Go.Lib Go.Sort
theorem px{α:Type}:(∀(l:List α)(i:Nat)(h:i<l.toArray.size),l.toArray[i]=l[i]'(by simpa using h))∧(∀(x:α)(l:List α)(h:0<(x::l).length),(x::l)[0]=x)∧(∀(x:α)(l:List α)(i:Nat)(h:i+1<(x::l).length),(x::l)[i+1]=l[i]'(by simpa using h))∧(∀(l:List α)(i:Nat)(v:α),l.toArray.setIfInBounds i v=(l.set i v).toArray)∧(∀(x y:α)(l:List α),(x::l).set 0 y=y::l)∧(∀(x y:α)(l:List α)(i:Nat),(x::l).set (i+1) y=x::l.set i y):=⟨by simp,by simp,by simp,by simp,by simp,by simp⟩
theorem pq{α:Type}:(∀(x:α)(l:List α),(x::l)[0]? =some x)∧(∀(x:α)(l:List α)(i:Nat),(x::l)[i+1]? =l[i]?)∧(∀x y:α,(some x=some y)=(x=y)):=⟨by simp,by simp,by simp⟩
section
variable{P:Program}{ops:Array Oper}{Q:Exit→Act→World→Prop}{md:Region.Mode}{S:World→Prop}{fuel:Nat}{listed:Array Bool}{a:Act}{w:World}
theorem wtk{i:Nat}{oi:Oper}{v:Value}(hS:S w)(hv: ∀W,S W→Sem.run P (execOp a.eval oi) W= .ok (.value v) W)(h:wpAnyH P md ops Q S fuel (listed.setIfInBounds i true) (a.put oi.dst v) w)(hi:ops[i]? =some oi:=by exact rfl)(hs:Region.noSelect ops=true:=by kernel_rfl)(hf:Region.free md ops listed i=true:=by kernel_rfl)(hr:(Region.ready md ops listed).contains i=true:=by kernel_rfl)(hQ: ∀c a w,Q (.panic c) (a.put oi.dst v) w→Q (.panic c) a w:=by exact fun _ _ _ h=>h)(hw:Region.wanted oi (yielded ops a.tmps)=true:=by rfl):wpAnyH P md ops Q S (fuel+1) listed a w:=wpAnyH_take hi hs hf hr hQ (.inl ⟨hw,hv⟩) hS h
theorem wrd(i:Nat){o:Oper}(h: ∀K:Act→World→Prop,Shut (∀a w,S w→(S w→wpAnyH P md ops Q S fuel (listed.setIfInBounds i true) a w)→K a w)→if Region.wanted o (yielded ops a.tmps)=true then Oper.wp P o a w K Q else K (a.put o.dst undef) w)(hr:Region.ready md ops listed=[i]:=by kernel_rfl)(ho:ops[i]? =some o:=by exact rfl):wpAnyH P md ops Q S (fuel+1) listed a w:=wpAnyH_ready hr (by simp) (.cons ho h .nil)
end
def Ints(w:World)(a:Option Addr)(l:List Int):Prop:=Rows w a 1 (l.map fun n=> #[.int .i64 n])
theorem Ints.rd{w:World}{a:Option Addr}{l:List Int}(h:Ints w a l){i:Nat}(hi:i<l.length): ∃B O,a=some ⟨B,O,none⟩∧B<w.heap.size∧w.cell? ⟨B,O+i,none⟩=some (.int .i64 l[i]):=by
 rcases h with h|⟨B,O,e,hb,h⟩
 ·rw[List.map_eq_nil_iff.1 h]at hi
  simp at hi
 ·refine⟨B,O,e,hb, ?_⟩
  have:=h i #[.int .i64 l[i]] (by simp[hi]) 0 _ rfl
  simpa using this
def plc(n:Int)(l:List Int):Nat:=l.findIdx (· ==n)
theorem b2b{n:Int}{l:List Int}{i:Nat}(hi:i<l.length)(h:l[i]=n)(ha: ∀j (hj:j<i),l[j]'(by omega)≠n):plc n l=i:=by
 unfold plc
 rw[List.findIdx_eq hi]
 exact⟨by simp[h],fun j hj=>by simpa using ha j hj⟩
theorem a7n{n:Int}{l:List Int}(ha: ∀j (hj:j<l.length),l[j]≠n):plc n l=l.length:=by
 unfold plc
 rw[List.findIdx_eq_length]
 intro x hx
 obtain⟨j,hj,rfl⟩:=List.getElem_of_mem hx
 simpa using ha j hj
set_option maxHeartbeats 4000000 in
set_option maxRecDepth 100000 in
theorem a9M(l:List Int)(a:Option Addr)(c:Nat)(n:Int)(w:World)(hl:l.length<4611686018427387904)(h:Ints w a l):
  Calls Try.prog 20 #[.slice a l.length c,.int .i64 n] w fun e w'=>e= .returned (.bool (decide (plc n l<l.length)))∧w'=w:=by
 have H:Aside (Ints w a l):=h
 clear h
 go_enter Try.func20,Try.ntmps20
 go_wp2
 go_loopg [5] l.length (fun kx s5 wr=> ∃i:Nat,s5= .int .i64 i∧i≤l.length∧l.length-i≤kx∧wr=w∧Hid (∀j (hj:j<i) (hl:j<l.length),l[j]≠n))
 case atStart=>exact⟨0,rfl,Nat.zero_le _,Nat.le_refl _,rfl,fun j hj=>by omega⟩
 case round=>
  obtain⟨i,rfl,hi,hkx,rfl,HE⟩:=hrel
  have wj:IntKind.i64.wrap ((i:Int)+1)=(i:Int)+1:=by rw[IntKind.wrap_i64];omega
  by_cases hlt:i<l.length
  ·have hltz:(i:Int)<(l.length:Int):=by omega
   obtain⟨B,O,rfl,_,c0⟩:=H.out.rd hlt
   generalize hx:l[i]=x at c0
   have HX:Hid (l[i]=x):=hx
   clear hx
   cases hq:(x==n)with
   |true=>
    go_wp2
    go_returns
    have:=b2b hlt (HX.out.trans (by simpa using hq)) (fun j hj=>HE.out j hj (by omega))
    refine⟨?_,rfl⟩
    rw[this,decide_eq_true hlt]
    rfl
   |false=>
    go_wp2
    go_roundg (l.length-(i+1))
    case measure=>omega
    case rel=>
     refine⟨i+1,by first|rfl|go_num,by omega,Nat.le_refl _,rfl,fun j hj hl=> ?_⟩
     rcases Nat.lt_or_ge j i with h|h
     ·exact HE.out j h hl
     ·obtain rfl:j=i:=by omega
      rw[HX.out]
      simpa using hq
  ·have hltz: ¬(i:Int)<(l.length:Int):=by omega
   go_wp2
   go_returns
   have:=a7n (n:=n) (l:=l) (fun j hj=>HE.out j (by omega) hj)
   refine⟨?_,rfl⟩
   rw[this,decide_eq_false (Nat.lt_irrefl _)]
   rfl
def nam(ord:List Int)(n:Int):Int:=if plc n ord<ord.length then(plc n ord:Int)+1 else if n=0 then 0 else -1
set_option maxHeartbeats 4000000 in
set_option maxRecDepth 100000 in
theorem b1o(l:List Int)(a:Option Addr)(c:Nat)(n:Int)(w:World)(hl:l.length<4611686018427387904)(h:Ints w a l):
  Calls Try.prog 41 #[.slice a l.length c,.int .i64 n] w fun e w'=>e= .returned (.int .i64 (nam l n))∧w'=w:=by
 have H:Aside (Ints w a l):=h
 clear h
 go_enter Try.func41,Try.ntmps41
 go_wp2
 go_loopg [5] l.length (fun kx s5 wr=> ∃i:Nat,s5= .int .i64 i∧i≤l.length∧l.length-i≤kx∧wr=w∧Hid (∀j (hj:j<i) (hl:j<l.length),l[j]≠n))
 case atStart=>exact⟨0,rfl,Nat.zero_le _,Nat.le_refl _,rfl,fun j hj=>by omega⟩
 case round=>
  obtain⟨i,rfl,hi,hkx,rfl,HE⟩:=hrel
  have wj:IntKind.i64.wrap ((i:Int)+1)=(i:Int)+1:=by rw[IntKind.wrap_i64];omega
  by_cases hlt:i<l.length
  ·have hltz:(i:Int)<(l.length:Int):=by omega
   obtain⟨B,O,rfl,_,c0⟩:=H.out.rd hlt
   generalize hx:l[i]=x at c0
   have HX:Hid (l[i]=x):=hx
   clear hx
   cases hq:(x==n)with
   |true=>
    go_wp2
    go_returns
    have:=b2b hlt (HX.out.trans (by simpa using hq)) (fun j hj=>HE.out j hj (by omega))
    refine⟨?_,rfl⟩
    rw[nam,this,if_pos hlt]
    rfl
   |false=>
    go_wp2
    go_roundg (l.length-(i+1))
    case measure=>omega
    case rel=>
     refine⟨i+1,by first|rfl|go_num,by omega,Nat.le_refl _,rfl,fun j hj hl=> ?_⟩
     rcases Nat.lt_or_ge j i with h|h
     ·exact HE.out j h hl
     ·obtain rfl:j=i:=by omega
      rw[HX.out]
      simpa using hq
  ·have hltz: ¬(i:Int)<(l.length:Int):=by omega
   have hp:=a7n (n:=n) (l:=l) (fun j hj=>HE.out j (by omega) hj)
   have HP:Hid _:=hp
   clear hp
   cases hq:(n==0)with
   |true=>
    go_wp2
    go_returns
    refine⟨?_,rfl⟩
    rw[nam,HP.out,if_neg (Nat.lt_irrefl _),if_pos (by simpa using hq)]
    rfl
   |false=>
    go_wp2
    go_returns
    refine⟨?_,rfl⟩
    rw[nam,HP.out,if_neg (Nat.lt_irrefl _),if_neg (by simpa using hq)]
    rfl
end Go.Proofs.Ytcblehiddfnafaa.canonSame
namespace Go.Proofs.Ytcblehiddfnafaa.canonSame
open Go.Shelf Go.RowKit Go.Lib Go.Sort
structure LayS(P:Program)(k29 k31 k41 k43 k45 k66 k97:Nat)(y29 y31 y41 y43 y45 y66 y97:List Value):Prop where
 mixed:P.follows .mixedOrders=true
 t3:P.underlying 3=some (TypeDesc.int IntKind.i64)
 a3: ∀w,(isAgg 3).run P w= .ok false w
 z3: ∀w,(Go.sizeOf 3).run P w= .ok 1 w
 v3: ∀w,(zeroValue 3).run P w= .ok (Value.int IntKind.i64 0) w
 t4:P.underlying 4=some TypeDesc.bool
 a4: ∀w,(isAgg 4).run P w= .ok false w
 z4: ∀w,(Go.sizeOf 4).run P w= .ok 1 w
 v4: ∀w,(zeroValue 4).run P w= .ok (Value.bool false) w
 t22:P.underlying 22=some (TypeDesc.slice 66)
 a22: ∀w,(isAgg 22).run P w= .ok false w
 z22: ∀w,(Go.sizeOf 22).run P w= .ok 1 w
 v22: ∀w,(zeroValue 22).run P w= .ok (Value.slice none 0 0) w
 t23:P.underlying 23=some (TypeDesc.slice 41)
 a23: ∀w,(isAgg 23).run P w= .ok false w
 z23: ∀w,(Go.sizeOf 23).run P w= .ok 1 w
 v23: ∀w,(zeroValue 23).run P w= .ok (Value.slice none 0 0) w
 t24:P.underlying 24=some (TypeDesc.slice 25)
 a24: ∀w,(isAgg 24).run P w= .ok false w
 z24: ∀w,(Go.sizeOf 24).run P w= .ok 1 w
 v24: ∀w,(zeroValue 24).run P w= .ok (Value.slice none 0 0) w
 t25:P.underlying 25=some (TypeDesc.slice 3)
 a25: ∀w,(isAgg 25).run P w= .ok false w
 z25: ∀w,(Go.sizeOf 25).run P w= .ok 1 w
 v25: ∀w,(zeroValue 25).run P w= .ok (Value.slice none 0 0) w
 t26:P.underlying 26=some (TypeDesc.slice 43)
 a26: ∀w,(isAgg 26).run P w= .ok false w
 z26: ∀w,(Go.sizeOf 26).run P w= .ok 1 w
 v26: ∀w,(zeroValue 26).run P w= .ok (Value.slice none 0 0) w
 t27:P.underlying 27=some (TypeDesc.slice 45)
 a27: ∀w,(isAgg 27).run P w= .ok false w
 z27: ∀w,(Go.sizeOf 27).run P w= .ok 1 w
 v27: ∀w,(zeroValue 27).run P w= .ok (Value.slice none 0 0) w
 t39:P.underlying 39=some (TypeDesc.slice 97)
 a39: ∀w,(isAgg 39).run P w= .ok false w
 z39: ∀w,(Go.sizeOf 39).run P w= .ok 1 w
 v39: ∀w,(zeroValue 39).run P w= .ok (Value.slice none 0 0) w
 t29:P.underlying 29=some (TypeDesc.struct #[{name:= "Kind",type:=3,offset:=0,embedded:=false,tag:= "",pkgPath:= "",byteOffset:=0},{name:= "Obj",type:=3,offset:=1,embedded:=false,tag:= "",pkgPath:= "",byteOffset:=8},{name:= "Abil",type:=3,offset:=2,embedded:=false,tag:= "",pkgPath:= "",byteOffset:=16},{name:= "Targets",type:=27,offset:=3,embedded:=false,tag:= "",pkgPath:= "",byteOffset:=24},{name:= "Paying",type:=4,offset:=4,embedded:=false,tag:= "",pkgPath:= "",byteOffset:=48}])
 a29: ∀w,(isAgg 29).run P w= .ok true w
 z29: ∀w,(Go.sizeOf 29).run P w= .ok k29 w
 v29: ∀w,(zeroValue 29).run P w= .ok (.agg y29.toArray) w
 t31:P.underlying 31=some (TypeDesc.struct #[{name:= "Players",type:=22,offset:=0,embedded:=false,tag:= "",pkgPath:= "",byteOffset:=0},{name:= "Objs",type:=23,offset:=1,embedded:=false,tag:= "",pkgPath:= "",byteOffset:=24},{name:= "Libs",type:=24,offset:=2,embedded:=false,tag:= "",pkgPath:= "",byteOffset:=48},{name:= "Hands",type:=24,offset:=3,embedded:=false,tag:= "",pkgPath:= "",byteOffset:=72},{name:= "Graves",type:=24,offset:=4,embedded:=false,tag:= "",pkgPath:= "",byteOffset:=96},{name:= "Exiles",type:=24,offset:=5,embedded:=false,tag:= "",pkgPath:= "",byteOffset:=120},{name:= "Field",type:=25,offset:=6,embedded:=false,tag:= "",pkgPath:= "",byteOffset:=144},{name:= "Stack",type:=26,offset:=7,embedded:=false,tag:= "",pkgPath:= "",byteOffset:=168},{name:= "Waits",type:=26,offset:=8,embedded:=false,tag:= "",pkgPath:= "",byteOffset:=192},{name:= "Turn",type:=3,offset:=9,embedded:=false,tag:= "",pkgPath:= "",byteOffset:=216},{name:= "Active",type:=3,offset:=10,embedded:=false,tag:= "",pkgPath:= "",byteOffset:=224},{name:= "Phase",type:=3,offset:=11,embedded:=false,tag:= "",pkgPath:= "",byteOffset:=232},{name:= "Prio",type:=3,offset:=12,embedded:=false,tag:= "",pkgPath:= "",byteOffset:=240},{name:= "Passes",type:=3,offset:=13,embedded:=false,tag:= "",pkgPath:= "",byteOffset:=248},{name:= "Blocker",type:=3,offset:=14,embedded:=false,tag:= "",pkgPath:= "",byteOffset:=256},{name:= "Next",type:=3,offset:=15,embedded:=false,tag:= "",pkgPath:= "",byteOffset:=264},{name:= "Stamp",type:=3,offset:=16,embedded:=false,tag:= "",pkgPath:= "",byteOffset:=272},{name:= "Used",type:=3,offset:=17,embedded:=false,tag:= "",pkgPath:= "",byteOffset:=280},{name:= "Cast",type:=29,offset:=18,embedded:=false,tag:= "",pkgPath:= "",byteOffset:=288},{name:= "Outcome",type:=3,offset:=23,embedded:=false,tag:= "",pkgPath:= "",byteOffset:=344},{name:= "Winner",type:=3,offset:=24,embedded:=false,tag:= "",pkgPath:= "",byteOffset:=352}])
 a31: ∀w,(isAgg 31).run P w= .ok true w
 z31: ∀w,(Go.sizeOf 31).run P w= .ok k31 w
 v31: ∀w,(zeroValue 31).run P w= .ok (.agg y31.toArray) w
 t41:P.underlying 41=some (TypeDesc.struct #[{name:= "Id",type:=3,offset:=0,embedded:=false,tag:= "",pkgPath:= "",byteOffset:=0},{name:= "Card",type:=3,offset:=1,embedded:=false,tag:= "",pkgPath:= "",byteOffset:=8},{name:= "Owner",type:=3,offset:=2,embedded:=false,tag:= "",pkgPath:= "",byteOffset:=16},{name:= "Ctrl",type:=3,offset:=3,embedded:=false,tag:= "",pkgPath:= "",byteOffset:=24},{name:= "Zone",type:=3,offset:=4,embedded:=false,tag:= "",pkgPath:= "",byteOffset:=32},{name:= "Tapped",type:=4,offset:=5,embedded:=false,tag:= "",pkgPath:= "",byteOffset:=40},{name:= "Sick",type:=4,offset:=6,embedded:=false,tag:= "",pkgPath:= "",byteOffset:=41},{name:= "Token",type:=4,offset:=7,embedded:=false,tag:= "",pkgPath:= "",byteOffset:=42},{name:= "Hurt",type:=3,offset:=8,embedded:=false,tag:= "",pkgPath:= "",byteOffset:=48},{name:= "Stamp",type:=3,offset:=9,embedded:=false,tag:= "",pkgPath:= "",byteOffset:=56},{name:= "Attack",type:=3,offset:=10,embedded:=false,tag:= "",pkgPath:= "",byteOffset:=64},{name:= "Block",type:=3,offset:=11,embedded:=false,tag:= "",pkgPath:= "",byteOffset:=72},{name:= "Stopped",type:=4,offset:=12,embedded:=false,tag:= "",pkgPath:= "",byteOffset:=80},{name:= "Effects",type:=39,offset:=13,embedded:=false,tag:= "",pkgPath:= "",byteOffset:=88}])
 a41: ∀w,(isAgg 41).run P w= .ok true w
 z41: ∀w,(Go.sizeOf 41).run P w= .ok k41 w
 v41: ∀w,(zeroValue 41).run P w= .ok (.agg y41.toArray) w
 t43:P.underlying 43=some (TypeDesc.struct #[{name:= "Id",type:=3,offset:=0,embedded:=false,tag:= "",pkgPath:= "",byteOffset:=0},{name:= "Kind",type:=3,offset:=1,embedded:=false,tag:= "",pkgPath:= "",byteOffset:=8},{name:= "Ctrl",type:=3,offset:=2,embedded:=false,tag:= "",pkgPath:= "",byteOffset:=16},{name:= "Obj",type:=3,offset:=3,embedded:=false,tag:= "",pkgPath:= "",byteOffset:=24},{name:= "Card",type:=3,offset:=4,embedded:=false,tag:= "",pkgPath:= "",byteOffset:=32},{name:= "Abil",type:=3,offset:=5,embedded:=false,tag:= "",pkgPath:= "",byteOffset:=40},{name:= "Targets",type:=27,offset:=6,embedded:=false,tag:= "",pkgPath:= "",byteOffset:=48}])
 a43: ∀w,(isAgg 43).run P w= .ok true w
 z43: ∀w,(Go.sizeOf 43).run P w= .ok k43 w
 v43: ∀w,(zeroValue 43).run P w= .ok (.agg y43.toArray) w
 t45:P.underlying 45=some (TypeDesc.struct #[{name:= "Player",type:=3,offset:=0,embedded:=false,tag:= "",pkgPath:= "",byteOffset:=0},{name:= "Obj",type:=3,offset:=1,embedded:=false,tag:= "",pkgPath:= "",byteOffset:=8}])
 a45: ∀w,(isAgg 45).run P w= .ok true w
 z45: ∀w,(Go.sizeOf 45).run P w= .ok k45 w
 v45: ∀w,(zeroValue 45).run P w= .ok (.agg y45.toArray) w
 t66:P.underlying 66=some (TypeDesc.struct #[{name:= "Life",type:=3,offset:=0,embedded:=false,tag:= "",pkgPath:= "",byteOffset:=0},{name:= "Mana",type:=64,offset:=1,embedded:=false,tag:= "",pkgPath:= "",byteOffset:=8},{name:= "Landed",type:=4,offset:=5,embedded:=false,tag:= "",pkgPath:= "",byteOffset:=40},{name:= "Lost",type:=4,offset:=6,embedded:=false,tag:= "",pkgPath:= "",byteOffset:=41},{name:= "Empty",type:=4,offset:=7,embedded:=false,tag:= "",pkgPath:= "",byteOffset:=42}])
 a66: ∀w,(isAgg 66).run P w= .ok true w
 z66: ∀w,(Go.sizeOf 66).run P w= .ok k66 w
 v66: ∀w,(zeroValue 66).run P w= .ok (.agg y66.toArray) w
 t97:P.underlying 97=some (TypeDesc.struct #[{name:= "Op",type:=3,offset:=0,embedded:=false,tag:= "",pkgPath:= "",byteOffset:=0},{name:= "A",type:=3,offset:=1,embedded:=false,tag:= "",pkgPath:= "",byteOffset:=8},{name:= "B",type:=3,offset:=2,embedded:=false,tag:= "",pkgPath:= "",byteOffset:=16},{name:= "Stamp",type:=3,offset:=3,embedded:=false,tag:= "",pkgPath:= "",byteOffset:=24}])
 a97: ∀w,(isAgg 97).run P w= .ok true w
 z97: ∀w,(Go.sizeOf 97).run P w= .ok k97 w
 v97: ∀w,(zeroValue 97).run P w= .ok (.agg y97.toArray) w
def b8g:List Value:=[Value.int IntKind.i64 0,Value.int IntKind.i64 0,Value.int IntKind.i64 0,Value.slice none 0 0,Value.bool false]
def b7j:List Value:=[Value.slice none 0 0,Value.slice none 0 0,Value.slice none 0 0,Value.slice none 0 0,Value.slice none 0 0,Value.slice none 0 0,Value.slice none 0 0,Value.slice none 0 0,Value.slice none 0 0,Value.int IntKind.i64 0,Value.int IntKind.i64 0,Value.int IntKind.i64 0,Value.int IntKind.i64 0,Value.int IntKind.i64 0,Value.int IntKind.i64 0,Value.int IntKind.i64 0,Value.int IntKind.i64 0,Value.int IntKind.i64 0,Value.int IntKind.i64 0,Value.int IntKind.i64 0,Value.int IntKind.i64 0,Value.slice none 0 0,Value.bool false,Value.int IntKind.i64 0,Value.int IntKind.i64 0]
def b8f:List Value:=[Value.int IntKind.i64 0,Value.int IntKind.i64 0,Value.int IntKind.i64 0,Value.int IntKind.i64 0,Value.int IntKind.i64 0,Value.bool false,Value.bool false,Value.bool false,Value.int IntKind.i64 0,Value.int IntKind.i64 0,Value.int IntKind.i64 0,Value.int IntKind.i64 0,Value.bool false,Value.slice none 0 0]
def b8e:List Value:=[Value.int IntKind.i64 0,Value.int IntKind.i64 0,Value.int IntKind.i64 0,Value.int IntKind.i64 0,Value.int IntKind.i64 0,Value.int IntKind.i64 0,Value.slice none 0 0]
def b8d:List Value:=[Value.int IntKind.i64 0,Value.int IntKind.i64 0]
def b8c:List Value:=[Value.int IntKind.i64 0,Value.int IntKind.i64 0,Value.int IntKind.i64 0,Value.int IntKind.i64 0,Value.int IntKind.i64 0,Value.bool false,Value.bool false,Value.bool false]
def b8b:List Value:=[Value.int IntKind.i64 0,Value.int IntKind.i64 0,Value.int IntKind.i64 0,Value.int IntKind.i64 0]
theorem a1L:LayS Try.prog 5 25 14 7 2 8 4 b8g b7j b8f b8e b8d b8c b8b where
 mixed:=by kernel_rfl
 t3:=Try.underlying3
 a3:=Try.isAgg3
 z3:=Try.sizeOf3
 v3:=Try.zeroValue3
 t4:=Try.underlying4
 a4:=Try.isAgg4
 z4:=Try.sizeOf4
 v4:=Try.zeroValue4
 t22:=Try.underlying22
 a22:=Try.isAgg22
 z22:=Try.sizeOf22
 v22:=Try.zeroValue22
 t23:=Try.underlying23
 a23:=Try.isAgg23
 z23:=Try.sizeOf23
 v23:=Try.zeroValue23
 t24:=Try.underlying24
 a24:=Try.isAgg24
 z24:=Try.sizeOf24
 v24:=Try.zeroValue24
 t25:=Try.underlying25
 a25:=Try.isAgg25
 z25:=Try.sizeOf25
 v25:=Try.zeroValue25
 t26:=Try.underlying26
 a26:=Try.isAgg26
 z26:=Try.sizeOf26
 v26:=Try.zeroValue26
 t27:=Try.underlying27
 a27:=Try.isAgg27
 z27:=Try.sizeOf27
 v27:=Try.zeroValue27
 t39:=Try.underlying39
 a39:=Try.isAgg39
 z39:=Try.sizeOf39
 v39:=Try.zeroValue39
 t29:=Try.underlying29
 a29:=Try.isAgg29
 z29:=Try.sizeOf29
 v29:=Try.zeroValue29
 t31:=Try.underlying31
 a31:=Try.isAgg31
 z31:=Try.sizeOf31
 v31:=Try.zeroValue31
 t41:=Try.underlying41
 a41:=Try.isAgg41
 z41:=Try.sizeOf41
 v41:=Try.zeroValue41
 t43:=Try.underlying43
 a43:=Try.isAgg43
 z43:=Try.sizeOf43
 v43:=Try.zeroValue43
 t45:=Try.underlying45
 a45:=Try.isAgg45
 z45:=Try.sizeOf45
 v45:=Try.zeroValue45
 t66:=Try.underlying66
 a66:=Try.isAgg66
 z66:=Try.sizeOf66
 v66:=Try.zeroValue66
 t97:=Try.underlying97
 a97:=Try.isAgg97
 z97:=Try.sizeOf97
 v97:=Try.zeroValue97
end Go.Proofs.Ytcblehiddfnafaa.canonSame
namespace Go.Proofs.Ytcblehiddfnafaa.canonSame
open Go.Shelf Go.RowKit Go.Lib Go.Sort
def fnd(n:Int)(l:List Int):Int:=if plc n l<l.length then(plc n l:Int)else -1
set_option maxHeartbeats 4000000 in
set_option maxRecDepth 100000 in
theorem b0D{P:Program}{k29 k31 k41 k43 k45 k66 k97:Nat}{y29 y31 y41 y43 y45 y66 y97:List Value}(L:LayS P k29 k31 k41 k43 k45 k66 k97 y29 y31 y41 y43 y45 y66 y97)(f19:P.funcs[19]? =some Try.f19)(SL:List Value)(oa:Option Addr)(ids:List Int)(oc:Nat)(q1:SL[1]? =some (.slice oa ids.length oc))(hl:ids.length<4611686018427387904)(id:Int)(w:World)
  (hO: ∀i (hi:i<ids.length),∃B O,oa=some ⟨B,O,none⟩∧ ∀W,Gr w W→W.cell? ⟨B,O+i*k41,none⟩=some (.int .i64 ids[i])):
  Calls P 19 #[.agg SL.toArray,.int .i64 id] w fun e w'=>e= .returned (.int .i64 (fnd id ids))∧Gr w w':=by
 have t3:=L.t3;have a3:=L.a3;have z3:=L.z3;have a41:=L.a41;have z41:=L.z41;have qu41:=run_underlying L.t41;have t23:=L.t23;have a23:=L.a23;have z23:=L.z23;have qu31:=run_underlying L.t31;have a31:=L.a31;have z31:=L.z31
 have cb:=a0B (a0q w SL 31) q1
 have G0:Aside (Gr w (w.alloc (.cells SL.toArray 31))):=(Gr.refl _).alloc _
 have HO:Aside _:=hO
 clear hO
 go_enter f19,Try.ntmps19
 go_wp2
 generalize w.alloc (.cells SL.toArray 31)=W at cb G0 ⊢
 go_loopg [5] ids.length (fun kx s5 wr=> ∃i:Nat,s5= .int .i64 i∧i≤ids.length∧ids.length-i≤kx∧wr=W∧Hid (∀j (hj:j<i) (hl:j<ids.length),ids[j]≠id))
 case atStart=>exact⟨0,rfl,Nat.zero_le _,Nat.le_refl _,rfl,fun j hj=>by omega⟩
 case round=>
  obtain⟨i,rfl,hid,hkx,rfl,HE⟩:=hrel
  by_cases hlt:i<ids.length
  ·have hltz:(i:Int)<(ids.length:Int):=by omega
   have wi:IntKind.i64.wrap ((i:Int)+1)=(i:Int)+1:=by rw[IntKind.wrap_i64];omega
   obtain⟨B,O,rfl,h⟩:=HO.out i hlt
   have c0:=h _ G0.out
   clear h
   generalize hx:ids[i]=x at c0
   have HX:Hid (ids[i]=x):=hx
   clear hx
   cases hq:(x==id)with
   |true=>
    go_wp2
    go_returns
    have:=b2b hlt (HX.out.trans (by simpa using hq)) (fun j hj=>HE.out j hj (by omega))
    refine⟨?_,G0.out⟩
    rw[fnd,this,if_pos hlt]
    rfl
   |false=>
    go_wp2
    go_roundg (ids.length-(i+1))
    case measure=>omega
    case rel=>
     refine⟨i+1,by first|rfl|go_num,by omega,Nat.le_refl _,rfl,fun j hj hl=> ?_⟩
     rcases Nat.lt_or_ge j i with h|h
     ·exact HE.out j h hl
     ·obtain rfl:j=i:=by omega
      rw[HX.out]
      simpa using hq
  ·have hltz: ¬(i:Int)<(ids.length:Int):=by omega
   go_wp2
   go_returns
   have:=a7n (n:=id) (l:=ids) (fun j hj=>HE.out j (by omega) hj)
   refine⟨?_,G0.out⟩
   rw[fnd,this,if_neg (Nat.lt_irrefl _)]
   rfl
structure Lsts(w:World)(a:Option Addr)(ls:List (List Int))(ad:Nat→Option Addr)(cp:Nat→Nat):Prop where
 r:Rows w a 1 ((List.range ls.length).map fun i=> #[.slice (ad i) (ls[i]!).length (cp i)])
 e: ∀i,i<ls.length→Ints w (ad i) ls[i]!
theorem Lsts.rd{w:World}{a:Option Addr}{ls:List (List Int)}{ad:Nat→Option Addr}{cp:Nat→Nat}(h:Lsts w a ls ad cp){i:Nat}(hi:i<ls.length): ∃B O,a=some ⟨B,O,none⟩∧B<w.heap.size∧w.cell? ⟨B,O+i,none⟩=some (.slice (ad i) (ls[i]!).length (cp i)):=by
 rcases h.r with h|⟨B,O,e,hb,h⟩
 ·have:=congrArg List.length h
  simp at this
  subst this
  simp at hi
 ·refine⟨B,O,e,hb, ?_⟩
  have:=h i #[.slice (ad i) (ls[i]!).length (cp i)] (by simp[hi]) 0 _ rfl
  simpa using this
def atL(ls:List (List Int))(p:Nat):List Int:=if p<ls.length then ls[p]! else []
end Go.Proofs.Ytcblehiddfnafaa.canonSame
namespace Go.Proofs.Ytcblehiddfnafaa.canonSame
open Go.Shelf Go.RowKit Go.Lib Go.Sort
def a0J(l:List Int):List Value:=l.map fun n=>.int .i64 n
def mor(fi:Int→Int)(l:List Int)(ids:List Int):List Int:=ids.foldl (fun l n=>if 0≤fi n∧ ¬plc n l<l.length then l++ [n]else l) l
theorem b4R(fi:Int→Int)(l ids:List Int)(n:Int):mor fi l (ids++ [n])=if 0≤fi n∧ ¬plc n (mor fi l ids)<(mor fi l ids).length then mor fi l ids++ [n]else mor fi l ids:=by
 unfold mor
 rw[List.foldl_append]
 rfl
theorem a0a(fi:Int→Int): ∀(ids l:List Int),(mor fi l ids).length≤l.length+ids.length
 | [],l=>by simp[mor]
 |n::ids,l=>by
  have e:mor fi l (n::ids)=mor fi (if 0≤fi n∧ ¬plc n l<l.length then l++ [n]else l) ids:=rfl
  rw[e]
  refine Nat.le_trans (a0a fi ids _) ?_
  split<;>simp<;>omega
structure Mi(w:World)(bs b3:Nat)(SL:List Value)(lv:Value)(l:List Int)(W:World):Prop where
 b:Below bs w W
 c:W.heap[b3]? =some (.cells SL.toArray 31)
 o:W.ownsRow bs 3 1 lv l.length (a0J l)
 g: ∀k,lv.ownBlock=some k→k≠b3
 hs:bs≤W.heap.size
theorem Mi.gr{w:World}{bs b3:Nat}{SL:List Value}{lv:Value}{l:List Int}{W W':World}(h:Mi w bs b3 SL lv l W)(g:Gr W W'):Mi w bs b3 SL lv l W':=
 ⟨a0N h.b h.hs g,a0M h.c g,h.o.kept (a0i g) (by cases hv:lv.ownBlock<;>simp),h.g,Nat.le_trans h.hs (Gr.le g)⟩
theorem Mi.app{w:World}{bs b3:Nat}{SL:List Value}{lv lv':Value}{l l':List Int}{W W':World}(h:Mi w bs b3 SL lv l W)(g:W.grownBy W' lv.ownBlock)(o:W'.ownsRow bs 3 1 lv' l'.length (a0J l')):Mi w bs b3 SL lv' l' W':=by
 have c':W'.heap[b3]? =some (.cells SL.toArray 31):=by
  rw[g.block b3 (a0L h.c) fun e=>h.g b3 e.symm rfl]
  exact h.c
 refine⟨h.b.grown g h.hs fun k hk=>(h.o.lt k hk).1,c',o,fun k hk e=> ?_,Nat.le_trans h.hs g.size⟩
 subst e
 rcases o.2 with⟨rfl,_⟩|⟨g',cap,cur,rfl,_,hg,_⟩
 ·cases hk
 ·simp only[Value.ownBlock,Option.some.injEq]at hk
  subst hk
  rw[c']at hg
  injection hg with hg
  injection hg with _ hg
  cases hg
set_option maxHeartbeats 4000000 in
set_option maxRecDepth 100000 in
theorem b1p{P:Program}{k29 k31 k41 k43 k45 k66 k97:Nat}{y29 y31 y41 y43 y45 y66 y97:List Value}(L:LayS P k29 k31 k41 k43 k45 k66 k97 y29 y31 y41 y43 y45 y66 y97)(f17:P.funcs[17]? =some Try.f17)(e19: ∀args w,(callFunc 19 args).run P w= .ok (.enter 19 args) w)(e20: ∀args w,(callFunc 20 args).run P w= .ok (.enter 20 args) w)
  (i3: ∃i z,P.info? 3=some i∧i.zero=some z∧z.cells.size=1∧i.size=1∧i.bytes≤1000)
  (SL:List Value) (hS:SL.length=k31) (fi:Int→Int) (ia:Option Addr) (ids:List Int) (ic:Nat) (lv:Value) (l:List Int) (w:World) (bs:Nat) (hbs:bs≤w.heap.size) (hn:ids.length≤40) (hl:l.length≤900)
  (h19: ∀n W,Below bs w W→Calls P 19 #[.agg SL.toArray,.int .i64 n] W fun e w'=>e= .returned (.int .i64 (fi n))∧Gr W w')
  (h20: ∀v (l:List Int) n W,l.length≤1000→W.ownsRow bs 3 1 v l.length (a0J l)→Calls P 20 #[v,.int .i64 n] W fun e w'=>e= .returned (.bool (decide (plc n l<l.length)))∧Gr W w')
  (hI: ∀i (hi:i<ids.length),∃B O,ia=some ⟨B,O,none⟩∧ ∀W,Below bs w W→(i=0→Gr w W)→W.cell? ⟨B,O+i,none⟩=some (.int .i64 ids[i])) (ho:w.ownsRow bs 3 1 lv l.length (a0J l)):
  Calls P 17 #[.agg SL.toArray,lv,.slice ia ids.length ic] w fun e w'=> ∃lv',e= .returned lv'∧w'.ownsRow bs 3 1 lv' (mor fi l ids).length (a0J (mor fi l ids))∧Below bs w w':=by
 have mixed:=L.mixed;have t3:=L.t3;have a3:=L.a3;have z3:=L.z3;have v3:=L.v3;have qu3:=run_underlying L.t3;have t4:=L.t4;have a4:=L.a4;have z4:=L.z4;have t25:=L.t25;have a25:=L.a25;have z25:=L.z25;have qu25:=run_underlying L.t25;have qu31:=run_underlying L.t31;have a31:=L.a31;have z31:=L.z31
 have M0:Aside _:=(show Mi w bs w.heap.size SL lv (mor fi l (ids.take 0)) (w.alloc (.cells SL.toArray 31))from⟨(Below.refl _ _).alloc hbs _,a0T _ _,ho.alloc _,fun k hk e=>by have:=(ho.lt k hk).2;omega,by simp;omega⟩)
 have H19:Aside _:=h19
 have H20:Aside _:=h20
 have HI:Aside _:=hI
 clear h19 h20 hI ho
 have G0:Aside _:=(Gr.refl w).alloc (.cells SL.toArray 31)
 go_enter f17,Try.ntmps17
 go_wp2
 generalize w.alloc (.cells SL.toArray 31)=W0 at M0 G0 ⊢
 go_loopg [1,7] ids.length (fun kx s1 s7 wr=> ∃(i:Nat) (v:Value),v=s1∧s7= .int .i64 i∧i≤ids.length∧ids.length-i≤kx∧Aside (Mi w bs w.heap.size SL v (mor fi l (ids.take i)) wr∧(i=0→Gr w wr)))
 case atStart=>exact⟨0,_,rfl,rfl,Nat.zero_le _,Nat.le_refl _,⟨M0,fun _=>G0⟩⟩
 case round=>
  clear M0 G0
  obtain⟨i,v,rfl,rfl,hi,hkx,MM⟩:=hrel
  have M1:Aside _:=MM.out.1
  have G1:Aside _:=MM.out.2
  clear MM
  have wj:IntKind.i64.wrap ((i:Int)+1)=(i:Int)+1:=by rw[IntKind.wrap_i64];omega
  by_cases hlt:i<ids.length
  ·have hltz:(i:Int)<(ids.length:Int):=by omega
   obtain⟨B,O,rfl,hc⟩:=HI.out i hlt
   have hT:ids.take (i+1)=ids.take i++ [ids[i]]:=List.take_succ_eq_append_getElem hlt
   have hm:=b4R fi l (ids.take i) ids[i]
   rw[←hT]at hm
   have hlen:(mor fi l (ids.take i)).length≤940:=Nat.le_trans (a0a fi _ l) (by rw[List.length_take];omega)
   generalize ids[i]=n at hc hm
   generalize mor fi l (ids.take i)=m at M1 hm hlen
   have HM:Hid _:=hm
   clear hT hm
   have l4: ∀q os,Sem.run P (loadCellsFrom ⟨w.heap.size,0,none⟩ 0 k31 #[]) (grow (wr.drewN q) os)= .ok SL.toArray (grow (wr.drewN q) os):=fun q os=>a0I P (a0A (M1.out.gr ⟨q,os,rfl⟩).c) hS
   have c0: ∀q os,(grow (wr.drewN q) os).cell? ⟨B,O+i,none⟩=some (.int .i64 n):=fun q os=>hc _ (M1.out.gr ⟨q,os,rfl⟩).b (fun h0=>(G1.out h0).trans ⟨q,os,rfl⟩)
   have HLEN:Aside _:=hlen
   clear hlen
   obtain⟨f,hf⟩: ∃f,fi n=f:=⟨_,rfl⟩
   have h19: ∀q os,Calls P 19 #[.agg SL.toArray,.int .i64 n] (grow (wr.drewN q) os) fun e w'=>e= .returned (.int .i64 f)∧Gr (grow (wr.drewN q) os) w':=fun q os=>by rw[←hf];exact H19.out n _ (M1.out.gr ⟨q,os,rfl⟩).b
   have HF:Hid _:=hf
   clear hf
   obtain⟨b,hb⟩: ∃b,decide (plc n m<m.length)=b:=⟨_,rfl⟩
   have h20: ∀q os,Calls P 20 #[v,.int .i64 n] (grow (wr.drewN q) os) fun e w'=>e= .returned (.bool b)∧Gr (grow (wr.drewN q) os) w':=fun q os=>by rw[←hb];exact H20.out v m n _ (by have:=HLEN.out;omega) (M1.out.gr ⟨q,os,rfl⟩).o
   have HB:Hid _:=hb
   clear hb
   by_cases hf0:0≤f
   ·have hfd:decide (f≥0)=true:=decide_eq_true hf0
    have HF0:Hid (0≤f):=hf0
    clear hf0
    go_wp2
    refine wp_region_quiet_grown (by assumption) (by kernel_rfl) ?_
    repeat (go_big_quiet_step (first|(go_at_fn 19;exact Calls.grown_of (h19 _ _))|(go_at_fn 20;exact Calls.grown_of (h20 _ _))))
    refine wpQuiet_nil ?_
    rintro _ ⟨⟨nq,osq⟩,rfl⟩
    have M2:Aside _:=M1.out.gr ⟨nq,osq,rfl⟩
    have c1:=c0 nq osq
    clear M1 l4 c0 h19 h20
    generalize grow (wr.drewN nq) osq=W2 at M2 c1 ⊢
    clear nq osq
    cases b with
    |true=>
     have hm:mor fi l (ids.take (i+1))=m:=by rw[HM.out,if_neg (by rintro⟨_,h⟩;exact h (of_decide_eq_true HB.out))]
     have HM2:Hid _:=hm
     clear hm
     go_wp2
     go_roundg (ids.length-(i+1))
     case measure=>omega
     case rel=>exact⟨i+1,v,rfl,by first|rfl|go_num,by omega,Nat.le_refl _,⟨by rw[HM2.out];exact M2,fun h=>by omega⟩⟩
    |false=>
     have hm:mor fi l (ids.take (i+1))=m++ [n]:=by rw[HM.out,if_pos ⟨by rw[HF.out];exact HF0.out,of_decide_eq_false HB.out⟩]
     have HM2:Hid _:=hm
     clear hm
     obtain⟨v',w3,hr,ho3,hg3⟩:=a1Y t25 i3 (by decide) (a0J m) [.int .i64 n] rfl (by simp[Value.oneCell']) M2.out.o M2.out.hs (by have:=HLEN.out;omega)
     have e:m.length+1=(m++ [n]).length:=by simp
     have e2:a0J m++ [.int .i64 n]=a0J (m++ [n]):=by simp[a0J]
     rw[e,e2]at ho3
     have M3:Aside _:=(M2.out.gr ((Gr.refl _).alloc (.cells [Value.int .i64 n].toArray 3))).app hg3 ho3
     clear ho3 hg3 e e2 M2
     go_wp2_with (first|(at_builtin;refine a0E rfl _ _ #[25,25] rfl v (.slice (some ⟨W2.heap.size,0,none⟩) 1 1) rfl rfl _ w3 hr ?_))
     go_roundg (ids.length-(i+1))
     case measure=>omega
     case rel=>exact⟨i+1,v',rfl,by first|rfl|go_num,by omega,Nat.le_refl _,⟨by rw[HM2.out];exact M3,fun h=>by omega⟩⟩
   ·have hfd:decide (f≥0)=false:=decide_eq_false hf0
    have hm:mor fi l (ids.take (i+1))=m:=by rw[HM.out,if_neg (by rintro⟨h,_⟩;rw[HF.out]at h;exact hf0 h)]
    have HM2:Hid _:=hm
    clear hm hf0
    go_wp2
    refine wp_region_quiet_grown (by assumption) (by kernel_rfl) ?_
    repeat (go_big_quiet_step (first|(go_at_fn 19;exact Calls.grown_of (h19 _ _))|(go_at_fn 20;exact Calls.grown_of (h20 _ _))))
    refine wpQuiet_nil ?_
    rintro _ ⟨⟨nq,osq⟩,rfl⟩
    have M2:Aside _:=M1.out.gr ⟨nq,osq,rfl⟩
    clear M1 l4 c0 h19 h20
    generalize grow (wr.drewN nq) osq=W2 at M2 ⊢
    clear nq osq
    go_wp2
    go_roundg (ids.length-(i+1))
    case measure=>omega
    case rel=>exact⟨i+1,v,rfl,by first|rfl|go_num,by omega,Nat.le_refl _,⟨by rw[HM2.out];exact M2,fun h=>by omega⟩⟩
  ·have hltz: ¬(i:Int)<(ids.length:Int):=by omega
   obtain rfl:i=ids.length:=by omega
   have hT:=M1.out
   rw[List.take_length]at hT
   have HT:Aside _:=hT
   clear hT M1
   go_wp2
   go_returns
   exact⟨_,rfl,HT.out.o,HT.out.b⟩
end Go.Proofs.Ytcblehiddfnafaa.canonSame
namespace Go.Proofs.Ytcblehiddfnafaa.canonSame
open Go.Shelf Go.RowKit Go.Lib Go.Sort
structure Ni(w:World)(bs e k:Nat)(lv:Value)(n:Nat)(X:List Value)(W:World):Prop where
 b:Below bs w W
 o:W.ownsRow bs e k lv n X
 hs:bs≤W.heap.size
theorem Ni.start(w:World)(e k:Nat):Ni w w.heap.size e k (.slice none 0 0) 0 [] w:=⟨.refl _ _,World.ownsRow_nil _ _ _ _,Nat.le_refl _⟩
theorem Ni.gr{w:World}{bs e k:Nat}{lv:Value}{n:Nat}{X:List Value}{W W':World}(h:Ni w bs e k lv n X W)(g:Gr W W'):Ni w bs e k lv n X W':=
 ⟨a0N h.b h.hs g,h.o.kept (a0i g) (by cases hv:lv.ownBlock<;>simp),Nat.le_trans h.hs (Gr.le g)⟩
theorem Ni.app{w:World}{bs e k:Nat}{lv lv':Value}{n n':Nat}{X X':List Value}{W W':World}(h:Ni w bs e k lv n X W)(g:W.grownBy W' lv.ownBlock)(o:W'.ownsRow bs e k lv' n' X'):Ni w bs e k lv' n' X' W':=
 ⟨h.b.grown g h.hs fun k hk=>(h.o.lt k hk).1,o,Nat.le_trans h.hs g.size⟩
set_option maxHeartbeats 4000000 in
set_option maxRecDepth 100000 in
theorem b0M{P:Program}{k29 k31 k41 k43 k45 k66 k97:Nat}{y29 y31 y41 y43 y45 y66 y97:List Value}(L:LayS P k29 k31 k41 k43 k45 k66 k97 y29 y31 y41 y43 y45 y66 y97)(f43:P.funcs[43]? =some Try.f43)(e41: ∀args w,(callFunc 41 args).run P w= .ok (.enter 41 args) w)
  (i3: ∃i z,P.info? 3=some i∧i.zero=some z∧z.cells.size=1∧i.size=1∧i.bytes≤1000)
  (ov:Value) (nm:Int→Int) (ia:Option Addr) (l:List Int) (ic:Nat) (w:World) (hn:l.length≤900)
  (h41: ∀n W,Below w.heap.size w W→Calls P 41 #[ov,.int .i64 n] W fun e w'=>e= .returned (.int .i64 (nm n))∧w'=W)
  (hI:Ints w ia l):
  Calls P 43 #[ov,.slice ia l.length ic] w fun e w'=> ∃lv',e= .returned lv'∧w'.ownsRow w.heap.size 3 1 lv' l.length (a0J (l.map nm))∧Below w.heap.size w w':=by
 have mixed:=L.mixed;have t3:=L.t3;have a3:=L.a3;have z3:=L.z3;have v3:=L.v3;have qu3:=run_underlying L.t3;have t4:=L.t4;have a4:=L.a4;have z4:=L.z4;have t25:=L.t25;have a25:=L.a25;have z25:=L.z25;have qu25:=run_underlying L.t25
 have N0:Aside _:=Ni.start w 3 1
 have H41:Aside _:=h41
 have HI:Aside (Ints w ia l):=hI
 clear h41 hI
 go_enter f43,Try.ntmps43
 go_wp2
 go_loopg [5,6] l.length (fun kx s5 s6 wr=> ∃(i:Nat) (v:Value),v=s5∧s6= .int .i64 i∧i≤l.length∧l.length-i≤kx∧Aside (Ni w w.heap.size 3 1 v i (a0J ((l.take i).map nm)) wr))
 case atStart=>exact⟨0,_,rfl,rfl,Nat.zero_le _,Nat.le_refl _,N0⟩
 case round=>
  clear N0
  obtain⟨i,v,rfl,rfl,hi,hkx,N1⟩:=hrel
  have wj:IntKind.i64.wrap ((i:Int)+1)=(i:Int)+1:=by rw[IntKind.wrap_i64];omega
  by_cases hlt:i<l.length
  ·have hltz:(i:Int)<(l.length:Int):=by omega
   obtain⟨B,O,rfl,hB,hc⟩:=HI.out.rd hlt
   have c0:wr.cell? ⟨B,O+i,none⟩=some (.int .i64 l[i]):=by rw[N1.out.b.cell (by exact hB)];exact hc
   have hT:a0J ((l.take (i+1)).map nm)=a0J ((l.take i).map nm)++ [.int .i64 (nm l[i])]:=by
    unfold a0J
    rw[List.take_succ_eq_append_getElem hlt,List.map_append,List.map_append]
    rfl
   clear hc
   generalize l[i]=n at c0 hT
   have HT:Hid _:=hT
   clear hT
   have h:=H41.out n wr N1.out.b
   generalize nm n=x at h HT
   obtain⟨v',w3,hr,ho3,hg3⟩:=a1Y t25 i3 (by decide) (a0J ((l.take i).map nm)) [.int .i64 x] rfl (by simp[Value.oneCell']) N1.out.o N1.out.hs (by omega)
   rw[←HT.out]at ho3
   have N3:Aside _:=(N1.out.gr ((Gr.refl _).alloc (.cells [Value.int .i64 x].toArray 3))).app hg3 ho3
   clear ho3 hg3 N1
   go_wp2_with (first|(go_at_fn 41;refine h.mono ?_;rintro e w2 ⟨rfl,hw⟩;obtain rfl:=hw.symm)|(at_builtin;refine a0E rfl _ _ #[25,25] rfl v (.slice (some ⟨wr.heap.size,0,none⟩) 1 1) rfl rfl _ w3 hr ?_))
   go_roundg (l.length-(i+1))
   case measure=>omega
   case rel=>exact⟨i+1,v',rfl,by first|rfl|go_num,by omega,Nat.le_refl _,N3⟩
  ·have hltz: ¬(i:Int)<(l.length:Int):=by omega
   obtain rfl:i=l.length:=by omega
   have hT:=N1.out
   rw[List.take_length]at hT
   have HT:Aside _:=hT
   clear hT N1
   go_wp2
   go_returns
   exact⟨_,rfl,HT.out.o,HT.out.b⟩
end Go.Proofs.Ytcblehiddfnafaa.canonSame
