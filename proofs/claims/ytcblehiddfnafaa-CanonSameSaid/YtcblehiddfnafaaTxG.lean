/-
  Chapter 28: states as data, and in memory.
-/
import Derived.Test.YtcblehiddfnafaaTxF
namespace Go.Proofs.Ytcblehiddfnafaa.canonSame
open Go.Shelf Go.RowKit Go.Lib Go.Sort
def Kp(lo hi:Nat)(W W':World):Prop:= ∀k,lo≤k→k<hi→W'.heap[k]? =W.heap[k]?
theorem Kp.refl(lo hi:Nat)(W:World):Kp lo hi W W:=fun _ _ _=>rfl
theorem Kp.trans{lo hi:Nat}{W W' W'':World}(h:Kp lo hi W W')(k:Kp lo hi W' W''):Kp lo hi W W'':=fun j a b=>(k j a b).trans (h j a b)
theorem Kp.mono{lo hi lo' hi':Nat}{W W':World}(h:Kp lo hi W W')(a:lo≤lo')(b:hi'≤hi):Kp lo' hi' W W':=fun j x y=>h j (by omega) (by omega)
theorem Kp.below{W W':World}{hi:Nat}(h:Below hi W W')(lo:Nat):Kp lo hi W W':=fun k _ b=>h.block k b
theorem Kp.set{lo hi b:Nat}(hb:b<lo∨hi≤b)(W:World)(o:Nat)(v:Value):Kp lo hi W (W.setCell ⟨b,o,none⟩ v):=fun k x y=>Below.heap_setCell _ _ _ _ (by show k≠b;omega)
theorem Kp.sets{lo hi b:Nat}(hb:b<lo∨hi≤b)(W:World)(o:Nat)(vs:List Value):Kp lo hi W (W.setCells b o vs):=fun k x y=>a0R (by omega) vs o
theorem Kp.grown{lo hi:Nat}{W W':World}{row:Option Nat}(h:W.grownBy W' row)(hi':hi≤W.heap.size)(hr: ∀k,row=some k→k<lo∨hi≤k):Kp lo hi W W':=fun k a b=>h.block k (by omega) (fun e=>by have:=hr k e.symm;omega)
theorem Kp.cell{lo hi:Nat}{W W':World}(h:Kp lo hi W W'){p:Addr}(a:lo≤p.block)(b:p.block<hi):W'.cell? p=W.cell? p:=by
 unfold World.cell?
 rw[h p.block a b]
def RowsI(lo hi:Nat)(w:World)(a:Option Addr)(k:Nat)(l:List (Array Value)):Prop:=l= []∨ ∃B O,a=some ⟨B,O,none⟩∧lo≤B∧B<hi∧ ∀i x,l[i]? =some x→ ∀j v,x[j]? =some v→w.cell? ⟨B,O+i*k+j,none⟩=some v
theorem RowsI.rows{lo hi:Nat}{w:World}{a:Option Addr}{k:Nat}{l:List (Array Value)}(h:RowsI lo hi w a k l)(hh:hi≤w.heap.size):Rows w a k l:=by
 rcases h with h|⟨B,O,e,_,hb,h⟩
 ·exact .inl h
 ·exact .inr ⟨B,O,e,by omega,h⟩
theorem RowsI.of{w:World}{a:Option Addr}{k:Nat}{l:List (Array Value)}(h:Rows w a k l):RowsI 0 w.heap.size w a k l:=by
 rcases h with h|⟨B,O,e,hb,h⟩
 ·exact .inl h
 ·exact .inr ⟨B,O,e,Nat.zero_le _,hb,h⟩
theorem RowsI.kp{lo hi:Nat}{w w':World}{a:Option Addr}{k:Nat}{l:List (Array Value)}(h:RowsI lo hi w a k l)(g:Kp lo hi w w'):RowsI lo hi w' a k l:=by
 rcases h with h|⟨B,O,e,h1,hb,h⟩
 ·exact .inl h
 ·exact .inr ⟨B,O,e,h1,hb,fun i x hx j v hv=>by rw[g.cell (by exact h1) (by exact hb)];exact h i x hx j v hv⟩
theorem RowsI.mono{lo hi lo' hi':Nat}{w:World}{a:Option Addr}{k:Nat}{l:List (Array Value)}(h:RowsI lo hi w a k l)(x:lo'≤lo)(y:hi≤hi'):RowsI lo' hi' w a k l:=by
 rcases h with h|⟨B,O,e,h1,hb,h⟩
 ·exact .inl h
 ·exact .inr ⟨B,O,e,by omega,by omega,h⟩
theorem RowsI.take{lo hi:Nat}{w:World}{a:Option Addr}{k:Nat}{l:List (Array Value)}(h:RowsI lo hi w a k l)(n:Nat):RowsI lo hi w a k (l.take n):=by
 rcases h with rfl|⟨B,O,e,h1,hb,h⟩
 ·exact .inl (by simp)
 ·refine .inr ⟨B,O,e,h1,hb,fun i x hx j v hv=>h i x ?_ j v hv⟩
  rw[List.getElem?_take]at hx
  split at hx
  ·exact hx
  ·cases hx
theorem a0u{W:World}{base e k n c:Nat}{a:Option Addr}{α:Type}{f:α→List Value}{l:List α}(h:W.ownsRow base e k (.slice a n c) n (l.flatMap f))(hn:n=l.length)(hf: ∀x,(f x).length=k):RowsI base W.heap.size W a k (l.map fun x=>(f x).toArray):=by
 rcases h.2 with⟨_,h0⟩|⟨g,cap,cur,hv,hb,hg,_⟩
 ·left
  rw[h0]at hn
  rw[List.eq_nil_of_length_eq_zero hn.symm]
  rfl
 ·injection hv with hv _ hc
  subst hv hc
  refine .inr ⟨g,0,rfl,hb,a0L hg,fun i x hx j v hv=> ?_⟩
  obtain⟨hi,rfl⟩:=List.getElem?_eq_some_iff.1 hx
  simp only[List.length_map]at hi
  simp only[List.getElem_map]at hv
  have hv':(f l[i])[j]? =some v:=by simpa using hv
  have hj:j<k:=by rw[←hf l[i]];exact(List.getElem?_eq_some_iff.1 hv').1
  have hlt:i*k+j<n*k:=Nat.lt_of_lt_of_le (Nat.add_lt_add_left hj _) (by have:=Nat.mul_le_mul_right k (show i+1≤n by omega);rw[Nat.succ_mul]at this;exact this)
  rw[Nat.zero_add,h.cellAt (i*k+j) hlt]
  have: ∀(m:List α) (i:Nat) (hi:i<m.length),(m.flatMap f)[i*k+j]? =(f m[i])[j]? :=by
   intro m
   induction m with
   |nil=>intro i hi;simp at hi
   |cons x m ih=>
    intro i hi
    cases i with
    |zero=>
     rw[List.flatMap_cons,Nat.zero_mul,Nat.zero_add,List.getElem?_append_left (by rw[hf];exact hj)]
     rfl
    |succ i=>
     rw[List.flatMap_cons,List.getElem?_append_right (by rw[hf,Nat.succ_mul];omega),hf,show(i+1)*k+j-k=i*k+j by rw[Nat.succ_mul];omega]
     exact ih i (by simpa using hi)
  rw[this l i hi,hv']
structure Pld where
 life:Int
 m0:Int
 m1:Int
 m2:Int
 m3:Int
 landed:Bool
 lost:Bool
 empty:Bool
deriving DecidableEq,Inhabited
structure Efd where
 op:Int
 a:Int
 b:Int
 st:Int
deriving DecidableEq,Inhabited
structure Obd where
 id:Int
 card:Int
 owner:Int
 ctrl:Int
 zone:Int
 tapped:Bool
 sick:Bool
 token:Bool
 hurt:Int
 stamp:Int
 attack:Int
 block:Int
 stopped:Bool
 effs:List Efd
deriving DecidableEq,Inhabited
structure Cad where
 kind:Int
 obj:Int
 abil:Int
 ts:List (Int×Int)
 paying:Bool
deriving DecidableEq,Inhabited
structure Std where
 pl:List Pld
 obs:List Obd
 libs:List (List Int)
 hands:List (List Int)
 graves:List (List Int)
 exiles:List (List Int)
 field:List Int
 stack:List Itm
 waits:List Itm
 turn:Int
 active:Int
 phase:Int
 prio:Int
 passes:Int
 blocker:Int
 next:Int
 stamp:Int
 used:Int
 cast:Cad
 outcome:Int
 winner:Int
deriving DecidableEq,Inhabited
def plV(x:Pld):List Value:=[.int .i64 x.life,.int .i64 x.m0,.int .i64 x.m1,.int .i64 x.m2,.int .i64 x.m3,.bool x.landed,.bool x.lost,.bool x.empty]
def efV(x:Efd):List Value:=[.int .i64 x.op,.int .i64 x.a,.int .i64 x.b,.int .i64 x.st]
def obV(x:Obd)(v:Value):List Value:=[.int .i64 x.id,.int .i64 x.card,.int .i64 x.owner,.int .i64 x.ctrl,.int .i64 x.zone,.bool x.tapped,.bool x.sick,.bool x.token,.int .i64 x.hurt,.int .i64 x.stamp,.int .i64 x.attack,.int .i64 x.block,.bool x.stopped,v]
structure Loc where
 a:Option Addr
 c:Nat
 ad:Nat→Option Addr
 cp:Nat→Nat
structure Lcs where
 p:Loc
 o:Loc
 l:Loc
 h:Loc
 g:Loc
 x:Loc
 f:Loc
 s:Loc
 w:Loc
 t:Loc
def stV(A:Lcs)(S:Std):List Value:=[.slice A.p.a S.pl.length A.p.c,.slice A.o.a S.obs.length A.o.c,.slice A.l.a S.libs.length A.l.c,.slice A.h.a S.hands.length A.h.c,.slice A.g.a S.graves.length A.g.c,.slice A.x.a S.exiles.length A.x.c,.slice A.f.a S.field.length A.f.c,.slice A.s.a S.stack.length A.s.c,.slice A.w.a S.waits.length A.w.c,.int .i64 S.turn,.int .i64 S.active,.int .i64 S.phase,.int .i64 S.prio,.int .i64 S.passes,.int .i64 S.blocker,.int .i64 S.next,.int .i64 S.stamp,.int .i64 S.used,.int .i64 S.cast.kind,.int .i64 S.cast.obj,.int .i64 S.cast.abil,.slice A.t.a S.cast.ts.length A.t.c,.bool S.cast.paying,.int .i64 S.outcome,.int .i64 S.winner]
structure Nst{α β:Type}(lo hi:Nat)(w:World)(A:Loc)(k m:Nat)(l:List α)(f:α→Value→List Value)(inn:α→List β)(g:β→List Value):Prop where
 r:RowsI lo hi w A.a k ((List.range l.length).map fun i=>match l[i]? with|some x=>(f x (.slice (A.ad i) (inn x).length (A.cp i))).toArray|none=> #[])
 e: ∀i x,l[i]? =some x→RowsI lo hi w (A.ad i) m ((inn x).map fun y=>(g y).toArray)
theorem Nst.kp{α β:Type}{lo hi:Nat}{w w':World}{A:Loc}{k m:Nat}{l:List α}{f:α→Value→List Value}{inn:α→List β}{g:β→List Value}(h:Nst lo hi w A k m l f inn g)(q:Kp lo hi w w'):Nst lo hi w' A k m l f inn g:=⟨h.r.kp q,fun i x hx=>(h.e i x hx).kp q⟩
theorem Nst.mono{α β:Type}{lo hi lo' hi':Nat}{w:World}{A:Loc}{k m:Nat}{l:List α}{f:α→Value→List Value}{inn:α→List β}{g:β→List Value}(h:Nst lo hi w A k m l f inn g)(x:lo'≤lo)(y:hi≤hi'):Nst lo' hi' w A k m l f inn g:=⟨h.r.mono x y,fun i z hz=>(h.e i z hz).mono x y⟩
abbrev b1P(lo hi:Nat)(w:World)(A:Loc)(l:List Obd):Prop:=Nst lo hi w A 14 4 l obV Obd.effs efV
abbrev ItsI(lo hi:Nat)(w:World)(A:Loc)(l:List Itm):Prop:=Nst lo hi w A 7 2 l a0f Itm.ts (fun p=>[.int .i64 p.1,.int .i64 p.2])
abbrev LstI(lo hi:Nat)(w:World)(A:Loc)(l:List (List Int)):Prop:=Nst lo hi w A 1 1 l (fun _ v=>[v]) id (fun n=>[.int .i64 n])
abbrev a2o(lo hi:Nat)(w:World)(a:Option Addr)(l:List Int):Prop:=RowsI lo hi w a 1 (l.map fun n=> #[.int .i64 n])
abbrev a9n(lo hi:Nat)(w:World)(a:Option Addr)(l:List (Int×Int)):Prop:=RowsI lo hi w a 2 (l.map fun p=> #[.int .i64 p.1,.int .i64 p.2])
abbrev b9o(lo hi:Nat)(w:World)(a:Option Addr)(l:List Pld):Prop:=RowsI lo hi w a 8 (l.map fun p=>(plV p).toArray)
structure StI(lo hi:Nat)(w:World)(A:Lcs)(S:Std):Prop where
 p:b9o lo hi w A.p.a S.pl
 o:b1P lo hi w A.o S.obs
 l:LstI lo hi w A.l S.libs
 h:LstI lo hi w A.h S.hands
 g:LstI lo hi w A.g S.graves
 x:LstI lo hi w A.x S.exiles
 f:a2o lo hi w A.f.a S.field
 s:ItsI lo hi w A.s S.stack
 wt:ItsI lo hi w A.w S.waits
 t:a9n lo hi w A.t.a S.cast.ts
theorem StI.kp{lo hi:Nat}{w w':World}{A:Lcs}{S:Std}(h:StI lo hi w A S)(q:Kp lo hi w w'):StI lo hi w' A S:=⟨h.p.kp q,h.o.kp q,h.l.kp q,h.h.kp q,h.g.kp q,h.x.kp q,h.f.kp q,h.s.kp q,h.wt.kp q,h.t.kp q⟩
theorem StI.mono{lo hi lo' hi':Nat}{w:World}{A:Lcs}{S:Std}(h:StI lo hi w A S)(x:lo'≤lo)(y:hi≤hi'):StI lo' hi' w A S:=⟨h.p.mono x y,h.o.mono x y,h.l.mono x y,h.h.mono x y,h.g.mono x y,h.x.mono x y,h.f.mono x y,h.s.mono x y,h.wt.mono x y,h.t.mono x y⟩
theorem a4D(A:Lcs)(S:Std): ∀v∈stV A S,v.oneCell'=true:=by
 intro v hv
 simp only[stV,List.mem_cons,List.not_mem_nil,or_false]at hv
 rcases hv with rfl|rfl|rfl|rfl|rfl|rfl|rfl|rfl|rfl|rfl|rfl|rfl|rfl|rfl|rfl|rfl|rfl|rfl|rfl|rfl|rfl|rfl|rfl|rfl|rfl<;>rfl
theorem a1P(x:Obd)(v:Value)(h:v.oneCell'=true): ∀u∈obV x v,u.oneCell'=true:=by
 intro u hu
 simp only[obV,List.mem_cons,List.not_mem_nil,or_false]at hu
 rcases hu with rfl|rfl|rfl|rfl|rfl|rfl|rfl|rfl|rfl|rfl|rfl|rfl|rfl|rfl<;>first|exact h|rfl
theorem Nst.row{α β:Type}{lo hi:Nat}{w:World}{A:Loc}{k m:Nat}{l:List α}{f:α→Value→List Value}{inn:α→List β}{g:β→List Value}(h:Nst lo hi w A k m l f inn g){i:Nat}(hi':i<l.length): ∃B O,A.a=some ⟨B,O,none⟩∧lo≤B∧B<hi∧ ∀j v,(f l[i] (.slice (A.ad i) (inn l[i]).length (A.cp i)))[j]? =some v→w.cell? ⟨B,O+i*k+j,none⟩=some v:=by
 rcases h.r with h'|⟨B,O,e,h1,h2,h'⟩
 ·have:=congrArg List.length h'
  simp at this
  subst this
  simp at hi'
 ·refine⟨B,O,e,h1,h2,fun j v hv=>h' i (f l[i] (.slice (A.ad i) (inn l[i]).length (A.cp i))).toArray ?_ j v (by simpa using hv)⟩
  simp[hi']
theorem Nst.ld{α β:Type}(P:Program){lo hi:Nat}{w:World}{A:Loc}{k m:Nat}{l:List α}{f:α→Value→List Value}{inn:α→List β}{g:β→List Value}(h:Nst lo hi w A k m l f inn g){i:Nat}(hi':i<l.length)(hf:(f l[i] (.slice (A.ad i) (inn l[i]).length (A.cp i))).length=k): ∃B O,A.a=some ⟨B,O,none⟩∧lo≤B∧B<hi∧ ∀W,Kp lo hi w W→Sem.run P (loadCellsFrom ⟨B,O+i*k,none⟩ 0 k #[]) W= .ok (f l[i] (.slice (A.ad i) (inn l[i]).length (A.cp i))).toArray W:=by
 obtain⟨B,O,e,h1,h2,hc⟩:=h.row hi'
 refine⟨B,O,e,h1,h2,fun W hW=> ?_⟩
 have:=run_loadCellsFrom_list P W ⟨B,O+i*k,none⟩ (f l[i] (.slice (A.ad i) (inn l[i]).length (A.cp i))) k hf fun j v hv=>by
  rw[Addr.add_lit,hW.cell (by exact h1) (by exact h2)]
  exact hc j v hv
 exact this
end Go.Proofs.Ytcblehiddfnafaa.canonSame
namespace Go.Proofs.Ytcblehiddfnafaa.canonSame
open Go.Shelf Go.RowKit Go.Lib Go.Sort
abbrev Inf(P:Program)(e k b:Nat):Prop:= ∃i z,P.info? e=some i∧i.zero=some z∧z.cells.size=k∧i.size=k∧i.bytes≤b
theorem a5B{α:Type}{f:α→List Value}{k:Nat}(hf: ∀x,(f x).length=k): ∀(m:List α) (i j:Nat) (hi:i<m.length),j<k→(m.flatMap f)[i*k+j]? =(f m[i])[j]?
 | [],i,j,hi,_=>by simp at hi
 |x::m,0,j,hi,hj=>by
  rw[List.flatMap_cons,Nat.zero_mul,Nat.zero_add,List.getElem?_append_left (by rw[hf];exact hj)]
  rfl
 |x::m,i+1,j,hi,hj=>by
  rw[List.flatMap_cons,List.getElem?_append_right (by rw[hf,Nat.succ_mul];omega),hf,show(i+1)*k+j-k=i*k+j by rw[Nat.succ_mul];omega]
  exact a5B hf m i j (by simpa using hi) hj
theorem a1W{α:Type}{f:α→List Value}{k:Nat}(hf: ∀x,(f x).length=k): ∀(m:List α),(m.flatMap f).length=m.length*k
 | []=>by simp
 |x::m=>by rw[List.flatMap_cons,List.length_append,hf,a1W hf m,List.length_cons,Nat.succ_mul];omega
theorem a8e{P:Program}{t e k b:Nat}(ht:P.underlying t=some (.slice e))(hi:Inf P e k b)(hk:0<k){W:World}{α:Type}(f:α→List Value)(l:List α)(hf: ∀x,(f x).length=k)(h1: ∀x,∀u∈f x,u.oneCell'=true){lo hh:Nat}{a:Option Addr}(c:Nat)(hR:RowsI lo hh W a k (l.map fun x=>(f x).toArray))(h63:l.length≤maxLen)(hby:l.length*b≤140737488355328):
  ∃v' w',(Builtin.append_ #[t,t] t #[.slice none 0 0,.slice a l.length c]).run P W= .ok v' w'∧w'.ownsRow W.heap.size e k v' l.length (l.flatMap f)∧W.grownBy w' none:=by
 obtain⟨i,z,i1,i2,i3,i4,i5⟩:=hi
 obtain⟨v',w',a1,a2,a3⟩:=a2J (P:=P) (ty:=t) (t:=t) (tx:=t) ht ht i1 i2 (by rw[i4];exact i3) (by rw[i4];exact hk) (base:=W.heap.size) (n:=0) (xs:=[]) (w:=W) (v:=.slice none 0 0) (by rw[i4];exact World.ownsRow_nil _ _ _ _) a l.length c (l.flatMap f) (by rw[i4,a1W hf]) (fun h=>by
   rcases hR with h'|⟨B,O,e,_⟩
   ·rw[List.map_eq_nil_iff.1 h'];rfl
   ·rw[h]at e;cases e)
  (fun ad had j u hu=>by
   rcases hR with h'|⟨B,O,e,_,_,h'⟩
   ·rw[List.map_eq_nil_iff.1 h']at hu
    simp at hu
   ·rw[had]at e
    injection e with e
    subst e
    have hj:=(List.getElem?_eq_some_iff.1 hu).1
    rw[a1W hf]at hj
    have hd:j/k<l.length:=(Nat.div_lt_iff_lt_mul hk).2 hj
    have hm:=Nat.mod_lt j hk
    have:=a5B hf l (j/k) (j%k) hd hm
    have ej:j/k*k+j%k=j:=by rw[Nat.mul_comm];exact Nat.div_add_mod j k
    rw[ej,hu]at this
    have:=h' (j/k) (f l[j/k]).toArray (by simp[hd]) (j%k) u (by simpa using this.symm)
    rw[Addr.add_lit]
    rwa [Nat.add_assoc,ej]at this)
  (fun u hu=>by
   obtain⟨x,_,hx⟩:=List.mem_flatMap.1 hu
   exact h1 x u hx) (by omega) (by rw[Nat.zero_add];exact Nat.le_trans (Nat.mul_le_mul_left _ i5) hby) (Nat.le_refl _)
 rw[i4]at a2
 refine⟨v',w',a1, ?_, ?_⟩
 ·simpa using a2
 ·exact a3
structure Nw{α β:Type}(w:World)(bs e1 k e2 m:Nat)(lv:Value)(T:List (Value×α))(f:α→Value→List Value)(inn:α→List β)(g:β→List Value)(W:World):Prop where
 i:Ni w bs e1 k lv T.length (T.flatMap fun p=>f p.2 p.1) W
 e: ∀p∈T,W.ownsRow bs e2 m p.1 (inn p.2).length ((inn p.2).flatMap g)
section
variable{α β:Type}{w:World}{bs e1 k e2 m:Nat}{lv:Value}{T:List (Value×α)}{f:α→Value→List Value}{inn:α→List β}{g:β→List Value}{W W':World}
theorem Nw.start(w:World)(e1 k e2 m:Nat)(f:α→Value→List Value)(inn:α→List β)(g:β→List Value):Nw w w.heap.size e1 k e2 m (.slice none 0 0) [] f inn g w:=⟨Ni.start _ _ _,fun p hp=>by cases hp⟩
theorem Nw.bel(h:Nw w bs e1 k e2 m lv T f inn g W)(q:Below W.heap.size W W'):Nw w bs e1 k e2 m lv T f inn g W':=
 ⟨⟨h.i.b.trans (q.mono h.i.hs),a1K h.i.o q,Nat.le_trans h.i.hs q.size⟩,fun p hp=>a1K (h.e p hp) q⟩
theorem Nw.app{lv':Value}(h:Nw w bs e1 k e2 m lv T f inn g W)(he:e2≠e1)(x:Value×α)(hx:W.ownsRow bs e2 m x.1 (inn x.2).length ((inn x.2).flatMap g))(q:W.grownBy W' lv.ownBlock)(o:W'.ownsRow bs e1 k lv' (T.length+1) ((T.flatMap fun p=>f p.2 p.1)++f x.2 x.1)):Nw w bs e1 k e2 m lv' (T++ [x]) f inn g W':=
 ⟨by rw[List.length_append,List.flatMap_append];simpa using h.i.app q o,fun p hp=>by
  rcases List.mem_append.1 hp with hp|hp
  ·exact(h.e p hp).kept q (a0p he (h.e p hp) h.i.o)
  ·rw[List.mem_singleton.1 hp]
   exact hx.kept q (a0p he hx h.i.o)⟩
theorem Nw.nst(h:Nw w bs e1 k e2 m lv T f inn g W)(hf: ∀x v,(f x v).length=k)(hg: ∀y,(g y).length=m): ∃A:Loc,lv= .slice A.a (T.map (·.2)).length A.c∧Nst bs W.heap.size W A k m (T.map (·.2)) f inn g:=by
 obtain⟨a,c,hlv⟩:=a0o h.i.o
 have hin: ∀i:Nat,∃q:Option Addr×Nat,∀p,T[i]? =some p→p.1= .slice q.1 (inn p.2).length q.2:=fun i=>by
  cases hi:T[i]? with
  |none=>exact⟨(none,0),fun p hp=>by cases hp⟩
  |some p=>
   obtain⟨a,c,e⟩:=a0o (h.e p (List.mem_of_getElem? hi))
   exact⟨(a,c),fun p' hp'=>by injection hp' with hp';subst hp';exact e⟩
 obtain⟨q,hq⟩:=Classical.skolem.1 hin
 refine⟨⟨a,c,fun i=>(q i).1,fun i=>(q i).2⟩,by rw[hlv,List.length_map], ?_, ?_⟩
 ·subst hlv
  have:=a0u (f:=fun p:Value×α=>f p.2 p.1) h.i.o rfl fun p=>hf _ _
  have e:(T.map fun p=>(f p.2 p.1).toArray)=(List.range (T.map (·.2)).length).map fun i=>match(T.map (·.2))[i]? with|some x=>(f x (.slice (q i).1 (inn x).length (q i).2)).toArray|none=> #[]:=by
   apply List.ext_getElem?
   intro i
   rw[List.getElem?_map,List.getElem?_map,List.length_map]
   rcases Nat.lt_or_ge i T.length with hi|hi
   ·rw[List.getElem?_eq_getElem hi,List.getElem?_eq_getElem (by simpa using hi),List.getElem_range]
    simp only[Option.map_some,List.getElem?_map,List.getElem?_eq_getElem hi]
    rw[hq i T[i] (List.getElem?_eq_getElem hi)]
   ·rw[List.getElem?_eq_none hi,List.getElem?_eq_none (by simpa using hi)]
    rfl
  rw[e]at this
  exact this
 ·intro i x hx
  rw[List.getElem?_map,Option.map_eq_some_iff]at hx
  obtain⟨p,hp,rfl⟩:=hx
  have he:=h.e p (List.mem_of_getElem? hp)
  rw[hq i p hp]at he
  exact a0u he rfl hg
end
set_option maxHeartbeats 4000000 in
set_option maxRecDepth 100000 in
theorem a7T{P:Program}{k29 k31 k41 k43 k45 k66 k97:Nat}{y29 y31 y41 y43 y45 y66 y97:List Value}(L:LayS P k29 k31 k41 k43 k45 k66 k97 y29 y31 y41 y43 y45 y66 y97)(f69:P.funcs[69]? =some Try.f69)(i3:Inf P 3 1 1000)
  (ia:Option Addr) (l:List Int) (ic:Nat) (w:World) (hn:l.length≤900) {lo hh:Nat} (hI:a2o lo hh w ia l):
  Calls P 69 #[.slice ia l.length ic] w fun e w'=> ∃lv,e= .returned lv∧w'.ownsRow w.heap.size 3 1 lv l.length (l.flatMap fun n=>[.int .i64 n])∧Below w.heap.size w w':=by
 have mixed:=L.mixed;have t25:=L.t25;have a25:=L.a25;have z25:=L.z25;have qu25:=run_underlying L.t25
 obtain⟨v',w',hr,ho,hg⟩:=a8e t25 i3 (by decide) (fun n=>[Value.int .i64 n]) l (fun _=>rfl) (fun _ u hu=>by rw[List.mem_singleton.1 hu];rfl) ic hI (by unfold maxLen;omega) (by omega)
 have HO:Aside _:=ho
 have HG:Aside _:=hg
 clear ho hg hI
 go_enter f69,Try.ntmps69
 go_wp2_with (at_builtin;refine a0E rfl _ _ #[25,25] rfl (.slice none 0 0) (.slice ia l.length ic) rfl rfl _ w' hr ?_)
 go_returns
 exact⟨v',rfl,HO.out,(Below.refl _ _).grown HG.out (Nat.le_refl _) fun k hk=>by cases hk⟩
set_option maxHeartbeats 4000000 in
set_option maxRecDepth 100000 in
theorem a5r{P:Program}{k29 k31 k41 k43 k45 k66 k97:Nat}{y29 y31 y41 y43 y45 y66 y97:List Value}(L:LayS P k29 k31 k41 k43 k45 k66 k97 y29 y31 y41 y43 y45 y66 y97)(f71:P.funcs[71]? =some Try.f71)(i45:Inf P 45 2 1000)
  (ia:Option Addr) (l:List (Int×Int)) (ic:Nat) (w:World) (hn:l.length≤900) {lo hh:Nat} (hI:a9n lo hh w ia l):
  Calls P 71 #[.slice ia l.length ic] w fun e w'=> ∃lv,e= .returned lv∧w'.ownsRow w.heap.size 45 2 lv l.length (l.flatMap fun p=>[.int .i64 p.1,.int .i64 p.2])∧Below w.heap.size w w':=by
 have mixed:=L.mixed;have t27:=L.t27;have a27:=L.a27;have z27:=L.z27;have qu27:=run_underlying L.t27
 obtain⟨v',w',hr,ho,hg⟩:=a8e t27 i45 (by decide) (fun p:Int×Int=>[Value.int .i64 p.1,.int .i64 p.2]) l (fun _=>rfl) (fun _ u hu=>by
  simp only[List.mem_cons,List.not_mem_nil,or_false]at hu
  rcases hu with rfl|rfl<;>rfl) ic hI (by unfold maxLen;omega) (by omega)
 have HO:Aside _:=ho
 have HG:Aside _:=hg
 clear ho hg hI
 go_enter f71,Try.ntmps71
 go_wp2_with (at_builtin;refine a0E rfl _ _ #[27,27] rfl (.slice none 0 0) (.slice ia l.length ic) rfl rfl _ w' hr ?_)
 go_returns
 exact⟨v',rfl,HO.out,(Below.refl _ _).grown HG.out (Nat.le_refl _) fun k hk=>by cases hk⟩
end Go.Proofs.Ytcblehiddfnafaa.canonSame
namespace Go.Proofs.Ytcblehiddfnafaa.canonSame
open Go.Shelf Go.RowKit Go.Lib Go.Sort
abbrev LsW(w:World)(bs:Nat)(lv:Value)(T:List (Value×List Int))(W:World):Prop:=Nw (α:=List Int) (β:=Int) w bs 25 1 3 1 lv T (fun _ v=>[v]) id (fun n=>[.int .i64 n]) W
abbrev ItW(w:World)(bs:Nat)(lv:Value)(T:List (Value×Itm))(W:World):Prop:=Nw (α:=Itm) (β:=Int×Int) w bs 43 7 45 2 lv T a0f Itm.ts (fun p=>[.int .i64 p.1,.int .i64 p.2]) W
theorem LstI.rd{lo hi:Nat}{w:World}{A:Loc}{ls:List (List Int)}(h:LstI lo hi w A ls){i:Nat}(hi':i<ls.length): ∃B O,A.a=some ⟨B,O,none⟩∧ ∀W,Kp lo hi w W→W.cell? ⟨B,O+i,none⟩=some (.slice (A.ad i) ls[i].length (A.cp i)):=by
 obtain⟨B,O,e,h1,h2,h3⟩:=h.row hi'
 refine⟨B,O,e,fun W hW=> ?_⟩
 rw[hW.cell (by exact h1) (by exact h2)]
 have:=h3 0 (.slice (A.ad i) ls[i].length (A.cp i)) rfl
 simpa using this
set_option maxHeartbeats 4000000 in
set_option maxRecDepth 100000 in
theorem a7x{P:Program}{k29 k31 k41 k43 k45 k66 k97:Nat}{y29 y31 y41 y43 y45 y66 y97:List Value}(L:LayS P k29 k31 k41 k43 k45 k66 k97 y29 y31 y41 y43 y45 y66 y97)(f68:P.funcs[68]? =some Try.f68)(f69:P.funcs[69]? =some Try.f69)(e69: ∀args w,(callFunc 69 args).run P w= .ok (.enter 69 args) w)(i3:Inf P 3 1 1000)(i25:Inf P 25 1 1000)
  (A:Loc) (ls:List (List Int)) (w:World) (hn:ls.length≤900) (hin: ∀l∈ls,l.length≤900) {lo hh:Nat} (hhh:hh≤w.heap.size) (hI:LstI lo hh w A ls):
  Calls P 68 #[.slice A.a ls.length A.c] w fun e w'=> ∃A':Loc,e= .returned (.slice A'.a ls.length A'.c)∧LstI w.heap.size w'.heap.size w' A' ls∧Below w.heap.size w w':=by
 have mixed:=L.mixed;have t3:=L.t3;have a3:=L.a3;have z3:=L.z3;have v3:=L.v3;have qu3:=run_underlying L.t3;have t4:=L.t4;have a4:=L.a4;have z4:=L.z4;have t25:=L.t25;have a25:=L.a25;have z25:=L.z25;have v25:=L.v25;have qu25:=run_underlying L.t25;have t24:=L.t24;have a24:=L.a24;have z24:=L.z24;have qu24:=run_underlying L.t24
 have N0:Aside _:=(Nw.start w 25 1 3 1 _ _ _:LsW _ _ _ _ _)
 have h69:=fun ia l ic w hn lo hh hI=>a7T L f69 i3 ia l ic w hn (lo:=lo) (hh:=hh) hI
 have H69:Aside _:=h69
 have HI:Aside (LstI lo hh w A ls):=hI
 have HIN:Aside _:=hin
 have ha:A.a=A.a:=rfl
 generalize hA:A.a=ia
 have HA:Hid (A.a=ia):=hA
 clear h69 hI hin ha hA f69 i3
 go_enter f68,Try.ntmps68
 go_wp2
 go_loopg [3,4] ls.length (fun kx s5 s6 wr=> ∃(i:Nat) (v:Value) (T:List (Value×List Int)),v=s5∧s6= .int .i64 i∧i≤ls.length∧ls.length-i≤kx∧T.map (·.2)=ls.take i∧Aside (LsW w w.heap.size v T wr))
 case atStart=>exact⟨0,_,[],rfl,rfl,Nat.zero_le _,Nat.le_refl _,rfl,N0⟩
 case round=>
  clear N0
  obtain⟨i,v,T,rfl,rfl,hi,hkx,hM,N1⟩:=hrel
  have HM:Hid _:=hM
  clear hM
  have wj:IntKind.i64.wrap ((i:Int)+1)=(i:Int)+1:=by rw[IntKind.wrap_i64];omega
  by_cases hlt:i<ls.length
  ·have hltz:(i:Int)<(ls.length:Int):=by omega
   obtain⟨B,O,hB,hc⟩:=HI.out.rd hlt
   rw[HA.out]at hB
   subst hB
   have q0:Kp lo hh w wr:=(Kp.below N1.out.i.b lo).mono (Nat.le_refl _) hhh
   have c0:=hc wr q0
   have h:=H69.out (A.ad i) ls[i] (A.cp i) wr (HIN.out _ (List.getElem_mem hlt)) lo hh ((HI.out.e i _ (List.getElem?_eq_getElem hlt)).kp q0)
   have hT:ls.take (i+1)=ls.take i++ [ls[i]]:=by
    rw[List.take_succ_eq_append_getElem hlt]
   have hTl:T.length=i:=by
    have:=congrArg List.length HM.out
    rw[List.length_map,List.length_take]at this
    omega
   clear hc q0
   generalize ls[i]=l at c0 h hT
   have HT:Hid _:=hT
   have HTL:Hid _:=hTl
   clear hT hTl
   have hT2: ∀v2:Value,(T++ [(v2,l)]).map (·.2)=ls.take (i+1):=fun v2=>by rw[HT.out,List.map_append,HM.out];rfl
   have HT2:Hid _:=hT2
   clear hT2
   go_wp2_with (first|(go_at_fn 69;refine h.mono ?_;rintro e w2 ⟨v2,rfl,ho2,hb2⟩;obtain⟨a2,c2,rfl⟩:=a0o ho2;have N2:Aside _:=N1.out.bel hb2;have O2:Aside _:=a1V ho2 N1.out.i.hs;obtain⟨v',w3,hr,ho3,hg3⟩:=a1Y t24 i25 (by decide) (T.flatMap fun p=>[p.1]) [.slice a2 l.length c2] rfl (by intro u hu;rw[List.mem_singleton.1 hu];rfl) N2.out.i.o N2.out.i.hs (by have:=HTL.out;omega);have g5:Aside (Below w2.heap.size w2 (w2.alloc (.cells [Value.slice a2 l.length c2].toArray 25))):=a0N (.refl _ _) (Nat.le_refl _) ((Gr.refl w2).alloc _);have N3:Aside _:=(N2.out.bel g5.out).app (by decide) (.slice a2 l.length c2,l) (a1K O2.out g5.out) hg3 ho3;clear ho2 hb2 ho3 hg3 N2 O2 g5)|(at_builtin;refine a0E rfl _ _ #[24,24] rfl v (.slice (some ⟨w2.heap.size,0,none⟩) 1 1) rfl rfl _ w3 hr ?_))
   go_roundg (ls.length-(i+1))
   case measure=>omega
   case rel=>exact⟨i+1,v',T++ [(.slice a2 l.length c2,l)],rfl,by first|rfl|go_num,by omega,Nat.le_refl _,HT2.out _,N3⟩
  ·have hltz: ¬(i:Int)<(ls.length:Int):=by omega
   obtain rfl:i=ls.length:=by omega
   have hT:=HM.out
   rw[List.take_length]at hT
   obtain⟨A',hA',hN⟩:=N1.out.nst (fun _ _=>rfl) (fun _=>rfl)
   rw[hT]at hA' hN
   have HN:Aside _:=hN
   have HB:Aside _:=N1.out.i.b
   clear hN N1 hT
   subst hA'
   go_wp2
   go_returns
   exact⟨A',rfl,HN.out,HB.out⟩
end Go.Proofs.Ytcblehiddfnafaa.canonSame
namespace Go.Proofs.Ytcblehiddfnafaa.canonSame
open Go.Shelf Go.RowKit Go.Lib Go.Sort
theorem a2M(x:Itm)(v:Value)(h:v.oneCell'=true): ∀u∈a0f x v,u.oneCell'=true:=by
 intro u hu
 simp only[a0f,List.mem_cons,List.not_mem_nil,or_false]at hu
 rcases hu with rfl|rfl|rfl|rfl|rfl|rfl|rfl<;>first|exact h|rfl
set_option maxHeartbeats 8000000 in
set_option maxRecDepth 100000 in
theorem a8A{P:Program}{k29 k31 k41 k43 k45 k66 k97:Nat}{y29 y31 y41 y43 y45 y66 y97:List Value}(L:LayS P k29 k31 k41 k43 k45 k66 k97 y29 y31 y41 y43 y45 y66 y97)(hk:k43=7)(hy3:y43.length=k43)(f70:P.funcs[70]? =some Try.f70)(f71:P.funcs[71]? =some Try.f71)(e71: ∀args w,(callFunc 71 args).run P w= .ok (.enter 71 args) w)
  (i43:Inf P 43 7 1000) (i45:Inf P 45 2 1000)
  (A:Loc) (xs:List Itm) (w:World) (hn:xs.length≤900) (hin: ∀x∈xs,x.ts.length≤900) {lo hh:Nat} (hhh:hh≤w.heap.size) (hI:ItsI lo hh w A xs):
  Calls P 70 #[.slice A.a xs.length A.c] w fun e w'=> ∃A':Loc,e= .returned (.slice A'.a xs.length A'.c)∧ItsI w.heap.size w'.heap.size w' A' xs∧Below w.heap.size w w':=by
 have mixed:=L.mixed;have t3:=L.t3;have a3:=L.a3;have z3:=L.z3;have v3:=L.v3;have qu3:=run_underlying L.t3;have t4:=L.t4;have a4:=L.a4;have z4:=L.z4;have t26:=L.t26;have a26:=L.a26;have z26:=L.z26;have qu26:=run_underlying L.t26;have t27:=L.t27;have a27:=L.a27;have z27:=L.z27;have qu27:=run_underlying L.t27;have qu43:=run_underlying L.t43;have a43:=L.a43;have z43:=L.z43;have v43:=L.v43
 have N0:Aside _:=(Nw.start w 43 7 45 2 _ _ _:ItW _ _ _ _ _)
 have h71:=fun ia l ic w hn lo hh hI=>a5r L f71 i45 ia l ic w hn (lo:=lo) (hh:=hh) hI
 have H71:Aside _:=h71
 have HI:Aside (ItsI lo hh w A xs):=hI
 have HIN:Aside _:=hin
 generalize hA:A.a=ia
 have HA:Hid (A.a=ia):=hA
 have HK:Hid (k43=7):=hk
 have hy7:7=y43.length:=by rw[hy3,hk]
 have HY:Hid (7=y43.length):=hy7
 clear hy7 h71 hI hin hA f71 i45 hk
 go_enter f70,Try.ntmps70
 go_wp2
 go_loopg [3,4] xs.length (fun kx s5 s6 wr=> ∃(i:Nat) (v:Value) (T:List (Value×Itm)),v=s5∧s6= .int .i64 i∧i≤xs.length∧xs.length-i≤kx∧T.map (·.2)=xs.take i∧Aside (ItW w w.heap.size v T wr))
 case atStart=>exact⟨0,_,[],rfl,rfl,Nat.zero_le _,Nat.le_refl _,rfl,N0⟩
 case round=>
  clear N0
  obtain⟨i,v,T,rfl,rfl,hi,hkx,hM,N1⟩:=hrel
  have HM:Hid _:=hM
  clear hM
  have wj:IntKind.i64.wrap ((i:Int)+1)=(i:Int)+1:=by rw[IntKind.wrap_i64];omega
  by_cases hlt:i<xs.length
  ·have hltz:(i:Int)<(xs.length:Int):=by omega
   obtain⟨B,O,hB,_,_,hc⟩:=HI.out.ld P hlt rfl
   rw[HA.out]at hB
   subst hB
   have q0:Kp lo hh w wr:=(Kp.below N1.out.i.b lo).mono (Nat.le_refl _) hhh
   have lA:=hc wr q0
   rw[←HK.out]at lA
   have hE:=HI.out.e i _ (List.getElem?_eq_getElem hlt)
   have hTs:=HIN.out _ (List.getElem_mem hlt)
   have hTl:T.length=i:=by
    have:=congrArg List.length HM.out
    rw[List.length_map,List.length_take]at this
    omega
   have hT:xs.take (i+1)=xs.take i++ [xs[i]]:=by
    rw[List.take_succ_eq_append_getElem hlt]
   clear hc q0
   generalize xs[i]=x at lA hE hT hTs
   have hT2: ∀v2:Value,(T++ [(v2,x)]).map (·.2)=xs.take (i+1):=fun v2=>by rw[hT,List.map_append,HM.out];rfl
   have HT2:Hid _:=hT2
   have HTL:Hid _:=hTl
   have HE:Aside _:=hE
   have HTS:Aside _:=hTs
   clear hT2 hTl hE hT hTs
   have sA:=a0P P (a0q wr y43 43) (a0f x (.slice (A.ad i) x.ts.length (A.cp i))) HY.out (a2M _ _ rfl)
   have g1:Below wr.heap.size wr ((wr.alloc (.cells y43.toArray 43)).setCells wr.heap.size 0 (a0f x (.slice (A.ad i) x.ts.length (A.cp i)))):=a0N (.refl _ _) (Nat.le_refl _) (Gr.sets (W:=wr) _ (Nat.le_refl _) _ _ ((Gr.refl _).alloc _))
   have b1:=a0Y (a0T wr (.cells y43.toArray 43)) (a0f x (.slice (A.ad i) x.ts.length (A.cp i))) HY.out
   have G1:Aside _:=g1
   have B1:Aside _:=b1
   clear g1 b1
   generalize hX0:a0f x (.slice (A.ad i) x.ts.length (A.cp i))=X0 at lA sA G1 B1
   have HX0:Hid _:=hX0
   have x1':X0.length=k43:=by rw[HK.out,←HX0.out];rfl
   clear hX0
   go_upto_region 6 with fail
   clear lA sA
   have hB1:=N1.out.i.b.trans (G1.out.mono N1.out.i.hs)
   generalize (wr.alloc (.cells y43.toArray 43)).setCells wr.heap.size 0 X0=W1 at G1 B1 hB1 ⊢
   have HB1:Aside _:=hB1
   clear hB1
   have l6:X0[6]? =some (.slice (A.ad i) x.ts.length (A.cp i)):=by rw[←HX0.out];rfl
   have c6:=a0B (a0A B1.out) l6
   have h6:=H71.out (A.ad i) x.ts (A.cp i) W1 HTS.out lo hh (RowsI.kp HE.out ((Kp.below HB1.out lo).mono (Nat.le_refl _) hhh))
   go_upto_region 7 with(go_at_fn 71;refine h6.mono ?_;rintro e W4 ⟨v2,rfl,ho2,hb2⟩;obtain⟨a2,c2,rfl⟩:=a0o ho2;have O2:Aside _:=ho2;have BB2:Aside _:=hb2;have B4:Aside _:=(hb2.block _ (a0L B1.out)).trans B1.out;have f6:=(a0A B4.out 6 (by have:=(List.getElem?_eq_some_iff.1 l6).1;simpa using this)).2;have c6':=a0B (a0A B4.out) l6;clear ho2 hb2)
   have G4:=G1.out.trans (BB2.out.mono G1.out.size)
   have G5:Aside _:=G4.setCell (p:=⟨wr.heap.size,6,none⟩) (Nat.le_refl _) (.slice a2 x.ts.length c2)
   have b5:=a1X B4.out 6 (.slice a2 x.ts.length c2)
   have hX5:X0.set 6 (.slice a2 x.ts.length c2)=a0f x (.slice a2 x.ts.length c2):=by rw[←HX0.out];rfl
   have N5:Aside _:=N1.out.bel G5.out
   have O5:Aside _:=a1V (ownsRow_setCell_other O2.out (a:=⟨wr.heap.size,6,none⟩) (fun h=>by have h0:W1.heap.size≤wr.heap.size:=(World.ownsRow.lt O2.out _ h).1;have:=a0L B1.out;omega) (.slice a2 x.ts.length c2)) (Nat.le_trans N1.out.i.hs G1.out.size)
   clear c6 c6' f6 h6 B1 HB1 G1 G4 O2
   generalize hX:X0.set 6 (.slice a2 x.ts.length c2)=X5 at b5 hX5
   clear hX
   have x5l:X5.length=k43:=by rw[HK.out,hX5];rfl
   generalize W4.setCell ⟨wr.heap.size,6,none⟩ (.slice a2 x.ts.length c2)=W5 at G5 b5 N5 O5 ⊢
   have lB:=a0I P (a0A b5) x5l
   obtain⟨v',w6,hr,ho6,hg6⟩:=a1Y t26 i43 (by decide) (T.flatMap fun p=>a0f p.2 p.1) X5 (by rw[hX5];rfl) (by rw[hX5];exact a2M _ _ rfl) N5.out.i.o N5.out.i.hs (by have:=HTL.out;omega)
   have g7:Below W5.heap.size W5 (W5.alloc (.cells X5.toArray 43)):=a0N (.refl _ _) (Nat.le_refl _) ((Gr.refl _).alloc _)
   have N6:Aside _:=(N5.out.bel g7).app (by decide) (.slice a2 x.ts.length c2,x) (a1K O5.out g7) hg6 (by rw[←hX5];exact ho6)
   have hfc:=a1h y43 X5 x5l
   have kb1: ¬16777216<k43:=by have:=HK.out;omega
   have kb2: ¬k43=0:=by have:=HK.out;omega
   clear ho6 hg6 g7 b5 hX5 N5 O5 x1' l6 B4
   go_wp2_with (first|(at_builtin;refine a0E rfl _ _ #[26,26] rfl v (.slice (some ⟨W5.heap.size,0,none⟩) 1 1) rfl rfl _ w6 hr ?_))
   go_roundg (xs.length-(i+1))
   case measure=>omega
   case rel=>exact⟨i+1,v',_,rfl,by first|rfl|go_num,by omega,Nat.le_refl _,HT2.out _,N6⟩
  ·have hltz: ¬(i:Int)<(xs.length:Int):=by omega
   obtain rfl:i=xs.length:=by omega
   have hT:=HM.out
   rw[List.take_length]at hT
   obtain⟨A',hA',hN⟩:=N1.out.nst (fun _ _=>rfl) (fun _=>rfl)
   rw[hT]at hA' hN
   have HN:Aside _:=hN
   have HB:Aside _:=N1.out.i.b
   clear hN N1 hT
   subst hA'
   go_wp2
   go_returns
   exact⟨A',rfl,HN.out,HB.out⟩
end Go.Proofs.Ytcblehiddfnafaa.canonSame
namespace Go.Proofs.Ytcblehiddfnafaa.canonSame
open Go.Shelf Go.RowKit Go.Lib Go.Sort
theorem a1A(b:Nat): ∀(vs:List Value) (o:Nat) (W:World),(W.setCells b o vs).heap.size=W.heap.size
 | [],_,_=>rfl
 |v::vs,o,W=>by rw[World.setCells,a1A b vs (o+1),World.size_setCell]
structure Bd(S:Std):Prop where
 pl:S.pl.length≤900
 obs:S.obs.length≤900
 effs: ∀x∈S.obs,x.effs.length≤maxLen∧x.effs.length*32≤140737488355328
 libs:S.libs.length≤900∧ ∀l∈S.libs,l.length≤900
 hands:S.hands.length≤900∧ ∀l∈S.hands,l.length≤900
 graves:S.graves.length≤900∧ ∀l∈S.graves,l.length≤900
 exiles:S.exiles.length≤900∧ ∀l∈S.exiles,l.length≤900
 field:S.field.length≤900
 stack:S.stack.length≤900∧ ∀x∈S.stack,x.ts.length≤900
 waits:S.waits.length≤900∧ ∀x∈S.waits,x.ts.length≤900
 ts:S.cast.ts.length≤900
structure Bx(w:World)(b1 b2 bs:Nat)(SL y:List Value)(A:Lcs)(S:Std)(W:World):Prop where
 b:Below w.heap.size w W
 c1:W.heap[b1]? =some (.cells SL.toArray 31)
 c2:W.heap[b2]? =some (.cells y.toArray 31)
 d:StI bs W.heap.size W A S
 h1:w.heap.size≤b1
 h2:b1<bs
 h3:w.heap.size≤b2
 h4:b2<bs
 h5:b1≠b2
 hs:bs≤W.heap.size
theorem Bx.call{w:World}{b1 b2 bs:Nat}{SL y:List Value}{A:Lcs}{S:Std}{W W2:World}(h:Bx w b1 b2 bs SL y A S W)(hb:Below W.heap.size W W2):Bx w b1 b2 bs SL y A S W2:=
 ⟨h.b.trans (hb.mono h.b.size),(hb.block _ (a0L h.c1)).trans h.c1,(hb.block _ (a0L h.c2)).trans h.c2,(h.d.kp (Kp.below hb _)).mono (Nat.le_refl _) hb.size,h.h1,h.h2,h.h3,h.h4,h.h5,Nat.le_trans h.hs hb.size⟩
theorem Bx.set{w:World}{b1 b2 bs:Nat}{SL y:List Value}{A:Lcs}{S:Std}{W:World}(h:Bx w b1 b2 bs SL y A S W)(k:Nat)(v:Value):Bx w b1 b2 bs (SL.set k v) y A S (W.setCell ⟨b1,k,none⟩ v):=
 ⟨h.b.setCell (p:=⟨b1,k,none⟩) h.h1 v,a1X h.c1 k v,(a0n (fun e=>h.h5 e.symm) k v).trans h.c2,by
  have:=h.d.kp (Kp.set (.inl h.h2) W k v)
  rw[World.size_setCell]
  exact this,h.h1,h.h2,h.h3,h.h4,h.h5,by rw[World.size_setCell];exact h.hs⟩
theorem Bx.put{w:World}{b1 b2 bs:Nat}{SL y:List Value}{A A':Lcs}{S S':Std}{W:World}(h:Bx w b1 b2 bs SL y A S W)(f:StI bs W.heap.size W A S→StI bs W.heap.size W A' S'):Bx w b1 b2 bs SL y A' S' W:=⟨h.b,h.c1,h.c2,f h.d,h.h1,h.h2,h.h3,h.h4,h.h5,h.hs⟩
theorem Bx.step{w:World}{b1 b2 bs:Nat}{SL y:List Value}{A A':Lcs}{S S':Std}{W W2:World}(h:Bx w b1 b2 bs SL y A S W)(hb:Below W.heap.size W W2)(f:StI bs W2.heap.size W2 A S→StI bs W2.heap.size W2 A' S')(k:Nat)(v:Value):Bx w b1 b2 bs (SL.set k v) y A' S' (W2.setCell ⟨b1,k,none⟩ v):=((h.call hb).put f).set k v
def a0G:Loc:=⟨none,0,fun _=>none,fun _=>0⟩
def a1b:Lcs:=⟨a0G,a0G,a0G,a0G,a0G,a0G,a0G,a0G,a0G,a0G⟩
def bare(S:Std):Std:={S with pl:=[],obs:=[],libs:=[],hands:=[],graves:=[],exiles:=[],field:=[],stack:=[],waits:=[],cast:={S.cast with ts:=[]}}
theorem a4H{α β:Type}{lo hi:Nat}{w:World}{A:Loc}{k m:Nat}{f:α→Value→List Value}{inn:α→List β}{g:β→List Value}:Nst lo hi w A k m [] f inn g:=⟨.inl rfl,fun i x hx=>by simp at hx⟩
theorem b0n(S:Std)(lo hi:Nat)(w:World):StI lo hi w a1b (bare S):=⟨.inl rfl,a4H,a4H,a4H,a4H,a4H,.inl rfl,a4H,a4H,.inl rfl⟩
theorem b3T(x:Efd): ∀u∈efV x,u.oneCell'=true:=by
 intro u hu
 simp only[efV,List.mem_cons,List.not_mem_nil,or_false]at hu
 rcases hu with rfl|rfl|rfl|rfl<;>rfl
theorem b2c(x:Pld): ∀u∈plV x,u.oneCell'=true:=by
 intro u hu
 simp only[plV,List.mem_cons,List.not_mem_nil,or_false]at hu
 rcases hu with rfl|rfl|rfl|rfl|rfl|rfl|rfl|rfl<;>rfl
set_option maxHeartbeats 8000000 in
set_option maxRecDepth 100000 in
theorem b2B{P:Program}{k29 k31 k41 k43 k45 k66 k97:Nat}{y29 y31 y41 y43 y45 y66 y97:List Value}(L:LayS P k29 k31 k41 k43 k45 k66 k97 y29 y31 y41 y43 y45 y66 y97)(hk0: ¬k29=0)(hk1:k31=25)(hy1:y31.length=k31)(hk:k41=14)(hy3:y41.length=k41)(f40:P.funcs[40]? =some Try.f40)
  (e68: ∀args w,(callFunc 68 args).run P w= .ok (.enter 68 args) w) (e69: ∀args w,(callFunc 69 args).run P w= .ok (.enter 69 args) w) (e70: ∀args w,(callFunc 70 args).run P w= .ok (.enter 70 args) w) (e71: ∀args w,(callFunc 71 args).run P w= .ok (.enter 71 args) w)
  (i66:Inf P 66 8 1000) (i41:Inf P 41 14 1000) (i97:Inf P 97 4 32)
  (h68: ∀(A:Loc) (ls:List (List Int)) (w:World) (_:ls.length≤900) (_: ∀l∈ls,l.length≤900) (lo hh:Nat) (_:hh≤w.heap.size) (_:LstI lo hh w A ls),Calls P 68 #[.slice A.a ls.length A.c] w fun e w'=> ∃A':Loc,e= .returned (.slice A'.a ls.length A'.c)∧LstI w.heap.size w'.heap.size w' A' ls∧Below w.heap.size w w')
  (h69: ∀(ia:Option Addr) (l:List Int) (ic:Nat) (w:World) (_:l.length≤900) (lo hh:Nat) (_:a2o lo hh w ia l),Calls P 69 #[.slice ia l.length ic] w fun e w'=> ∃lv,e= .returned lv∧w'.ownsRow w.heap.size 3 1 lv l.length (l.flatMap fun n=>[.int .i64 n])∧Below w.heap.size w w')
  (h70: ∀(A:Loc) (xs:List Itm) (w:World) (_:xs.length≤900) (_: ∀x∈xs,x.ts.length≤900) (lo hh:Nat) (_:hh≤w.heap.size) (_:ItsI lo hh w A xs),Calls P 70 #[.slice A.a xs.length A.c] w fun e w'=> ∃A':Loc,e= .returned (.slice A'.a xs.length A'.c)∧ItsI w.heap.size w'.heap.size w' A' xs∧Below w.heap.size w w')
  (h71: ∀(ia:Option Addr) (l:List (Int×Int)) (ic:Nat) (w:World) (_:l.length≤900) (lo hh:Nat) (_:a9n lo hh w ia l),Calls P 71 #[.slice ia l.length ic] w fun e w'=> ∃lv,e= .returned lv∧w'.ownsRow w.heap.size 45 2 lv l.length (l.flatMap fun p=>[.int .i64 p.1,.int .i64 p.2])∧Below w.heap.size w w')
  (A:Lcs) (S:Std) (w:World) (hB:Bd S) {lo hh:Nat} (hhh:hh≤w.heap.size) (hI:StI lo hh w A S):
  Calls P 40 #[.agg (stV A S).toArray] w fun e w'=> ∃A',e= .returned (.agg (stV A' S).toArray)∧StI w.heap.size w'.heap.size w' A' S∧Below w.heap.size w w':=by
 have mixed:=L.mixed;have t3:=L.t3;have a3:=L.a3;have z3:=L.z3;have v3:=L.v3;have qu3:=run_underlying L.t3;have t4:=L.t4;have a4:=L.a4;have z4:=L.z4
 have t22:=L.t22;have a22:=L.a22;have z22:=L.z22;have v22:=L.v22;have qu22:=run_underlying L.t22
 have t23:=L.t23;have a23:=L.a23;have z23:=L.z23;have v23:=L.v23;have qu23:=run_underlying L.t23
 have t24:=L.t24;have a24:=L.a24;have z24:=L.z24;have v24:=L.v24;have qu24:=run_underlying L.t24
 have t25:=L.t25;have a25:=L.a25;have z25:=L.z25;have v25:=L.v25;have qu25:=run_underlying L.t25
 have t26:=L.t26;have a26:=L.a26;have z26:=L.z26;have v26:=L.v26;have qu26:=run_underlying L.t26
 have t27:=L.t27;have a27:=L.a27;have z27:=L.z27;have v27:=L.v27;have qu27:=run_underlying L.t27
 have t39:=L.t39;have a39:=L.a39;have z39:=L.z39;have v39:=L.v39;have qu39:=run_underlying L.t39
 have qu29:=run_underlying L.t29;have a29:=L.a29;have z29:=L.z29;have v29:=L.v29
 have qu31:=run_underlying L.t31;have a31:=L.a31;have z31:=L.z31;have v31:=L.v31
 have qu41:=run_underlying L.t41;have a41:=L.a41;have z41:=L.z41;have v41:=L.v41
 have HI:Aside (StI lo hh w A S):=hI
 have HB:Aside (Bd S):=hB
 have H68:Aside _:=h68
 have H69:Aside _:=h69
 have H70:Aside _:=h70
 have H71:Aside _:=h71
 have HK:Hid (k41=14):=hk
 have hy7:14=y41.length:=by rw[hy3,hk]
 have HY:Hid (14=y41.length):=hy7
 have hy8:25=y31.length:=by rw[hy1,hk1]
 have HY1:Hid (25=y31.length):=hy8
 have HK1:Hid (k31=25):=hk1
 have X0:Aside _:=(show Bx w w.heap.size (w.heap.size+1) (w.heap.size+2) (stV A S) y31 a1b (bare S) ((w.alloc (.cells (stV A S).toArray 31)).alloc (.cells y31.toArray 31))from by
  obtain⟨g,b4,b5⟩:=a0W w (stV A S) y31 31 31
  exact⟨a0N (.refl _ _) (Nat.le_refl _) g,b4,b5,b0n S _ _ _,by omega,by omega,by omega,by omega,by omega,by simp⟩)
 clear hI hB h68 h69 h70 h71 hk hy7 hy8 hk1 hy1
 have kI: ∀W,Below w.heap.size w W→Kp lo hh w W:=fun W h=>(Kp.below h lo).mono (Nat.le_refl _) hhh
 have KI:Aside _:=kI
 clear kI
 have W0B:Aside (w.heap.size+2=w.heap.size+2):=rfl
 go_enter f40,Try.ntmps40
 go_upto_region 2 with fail
 generalize hbs:w.heap.size+2=bs at X0
 generalize hb1:w.heap.size=b1 at X0 ⊢
 generalize hb2:b1+1=b2 at X0 ⊢
 generalize hSL:(w.alloc (.cells (stV A S).toArray 31)).alloc (.cells y31.toArray 31)=W0 at X0 ⊢
 clear hbs hb2 hSL W0B
 have HBB:Hid (w.heap.size=b1):=hb1
 clear hb1
 have c0:=a0B (a0A X0.out.c1) (j:=0) (v:=.slice A.p.a S.pl.length A.p.c) rfl
 obtain⟨vp,Wp,hr,ho,hg⟩:=a8e t22 i66 (by decide) plV S.pl (fun _=>rfl) b2c A.p.c (RowsI.kp HI.out.p (KI.out _ X0.out.b)) (by have:=HB.out.pl;unfold maxLen;omega) (by have:=HB.out.pl;omega)
 obtain⟨ap,cp,rfl⟩:=a0o ho
 have hbp:Below W0.heap.size W0 Wp:=(Below.refl _ _).grown hg (Nat.le_refl _) fun k hk=>by cases hk
 have c0':=a0B (a0A (X0.out.call hbp).c1) (j:=0) (v:=.slice A.p.a S.pl.length A.p.c) rfl
 have f0:=(a0A (X0.out.call hbp).c1 0 (by show 0<25;decide)).2
 have X1:Aside _:=X0.out.step hbp (A':={a1b with p:=⟨ap,cp,a0G.ad,a0G.cp⟩}) (S':={bare S with pl:=S.pl}) (fun d=>{d with p:=(a0u ho rfl fun _=>rfl).mono X0.out.hs (Nat.le_refl _)}) 0 (.slice ap S.pl.length cp)
 clear ho hg hbp
 go_upto_region 3 with(at_builtin;refine a0E rfl _ _ #[22,22] rfl (.slice none 0 0) (.slice A.p.a S.pl.length A.p.c) rfl rfl _ Wp hr ?_)
 clear c0 c0' f0 hr X0
 generalize Wp.setCell ⟨b1,0,none⟩ (.slice ap S.pl.length cp)=W1 at X1 ⊢
 have hX1:(stV A S).set 0 (.slice ap S.pl.length cp)=stV {A with p:=⟨ap,cp,a0G.ad,a0G.cp⟩} S:=rfl
 rw[hX1]at X1
 clear hX1
 have N0:Aside _:=(Nw.start W1 41 14 97 4 obV Obd.effs efV)
 go_wp2
 go_loopg [4,5] S.obs.length (fun kx s4 s5 wr=> ∃(i:Nat) (v:Value) (T:List (Value×Obd)),v=s4∧s5= .int .i64 i∧i≤S.obs.length∧S.obs.length-i≤kx∧T.map (·.2)=S.obs.take i∧Aside (Nw W1 W1.heap.size 41 14 97 4 v T obV Obd.effs efV wr))
 case atStart=>exact⟨0,_,[],rfl,rfl,Nat.zero_le _,Nat.le_refl _,rfl,N0⟩
 case round=>
  clear N0
  obtain⟨i,v,T,rfl,rfl,hi,hkx,hM,N1⟩:=hrel
  have HM:Hid _:=hM
  clear hM
  have wj:IntKind.i64.wrap ((i:Int)+1)=(i:Int)+1:=by rw[IntKind.wrap_i64];have:=HB.out.obs;omega
  have X2:Aside _:=X1.out.call N1.out.i.b
  have c1:=a0B (a0A X2.out.c1) (j:=1) (v:=.slice A.o.a S.obs.length A.o.c) rfl
  by_cases hlt:i<S.obs.length
  ·have hltz:(i:Int)<(S.obs.length:Int):=by omega
   obtain⟨B,O,hB,_,_,hc⟩:=HI.out.o.ld P hlt rfl
   rw[hB]at c1
   have lA:=hc wr (KI.out _ X2.out.b)
   rw[←HK.out]at lA
   have hE:=HI.out.o.e i _ (List.getElem?_eq_getElem hlt)
   have hTs:=HB.out.effs _ (List.getElem_mem hlt)
   have hTl:T.length=i:=by
    have:=congrArg List.length HM.out
    rw[List.length_map,List.length_take]at this
    omega
   have hT:S.obs.take (i+1)=S.obs.take i++ [S.obs[i]]:=by
    rw[List.take_succ_eq_append_getElem hlt]
   clear hc hB
   generalize S.obs[i]=x at lA hE hT hTs
   have hT2: ∀v2:Value,(T++ [(v2,x)]).map (·.2)=S.obs.take (i+1):=fun v2=>by rw[hT,List.map_append,HM.out];rfl
   have HT2:Hid _:=hT2
   have HTL:Hid _:=hTl
   have HE:Aside _:=hE
   have HTS:Aside _:=hTs
   clear hT2 hTl hE hT hTs
   have sA:=a0P P (a0q wr y41 41) (obV x (.slice (A.o.ad i) x.effs.length (A.o.cp i))) HY.out (a1P _ _ rfl)
   have g1:Below wr.heap.size wr ((wr.alloc (.cells y41.toArray 41)).setCells wr.heap.size 0 (obV x (.slice (A.o.ad i) x.effs.length (A.o.cp i)))):=a0N (.refl _ _) (Nat.le_refl _) (Gr.sets (W:=wr) _ (Nat.le_refl _) _ _ ((Gr.refl _).alloc _))
   have b1':=a0Y (a0T wr (.cells y41.toArray 41)) (obV x (.slice (A.o.ad i) x.effs.length (A.o.cp i))) HY.out
   have G1:Aside _:=g1
   have B1:Aside _:=b1'
   clear g1 b1'
   generalize hX0:obV x (.slice (A.o.ad i) x.effs.length (A.o.cp i))=X0 at lA sA G1 B1
   have HX0:Hid _:=hX0
   have x1':X0.length=k41:=by rw[HK.out,←HX0.out];rfl
   clear hX0
   go_upto_region 9 with fail
   clear lA sA c1
   have hB1:=X2.out.b.trans (G1.out.mono X2.out.b.size)
   generalize (wr.alloc (.cells y41.toArray 41)).setCells wr.heap.size 0 X0=W2 at G1 B1 hB1 ⊢
   have HB1:Aside _:=hB1
   clear hB1
   have l6:X0[13]? =some (.slice (A.o.ad i) x.effs.length (A.o.cp i)):=by rw[←HX0.out];rfl
   have c6:=a0B (a0A B1.out) l6
   obtain⟨v2,W4,hr,ho2,hg⟩:=a8e t39 i97 (by decide) efV x.effs (fun _=>rfl) b3T (A.o.cp i) (RowsI.kp HE.out (KI.out _ HB1.out)) HTS.out.1 HTS.out.2
   obtain⟨a2,c2,rfl⟩:=a0o ho2
   have hb2:Below W2.heap.size W2 W4:=(Below.refl _ _).grown hg (Nat.le_refl _) fun k hk=>by cases hk
   have O2:Aside _:=ho2
   have BB2:Aside _:=hb2
   have B4:Aside _:=(hb2.block _ (a0L B1.out)).trans B1.out
   have f6:=(a0A B4.out 13 (by have:=(List.getElem?_eq_some_iff.1 l6).1;simpa using this)).2
   have c6':=a0B (a0A B4.out) l6
   clear ho2 hb2 hg
   go_upto_region 10 with(at_builtin;refine a0E rfl _ _ #[39,39] rfl (.slice none 0 0) (.slice (A.o.ad i) x.effs.length (A.o.cp i)) rfl rfl _ W4 hr ?_)
   have G4:=G1.out.trans (BB2.out.mono G1.out.size)
   have G5:Aside _:=G4.setCell (p:=⟨wr.heap.size,13,none⟩) (Nat.le_refl _) (.slice a2 x.effs.length c2)
   have b5:=a1X B4.out 13 (.slice a2 x.effs.length c2)
   have hX5:X0.set 13 (.slice a2 x.effs.length c2)=obV x (.slice a2 x.effs.length c2):=by rw[←HX0.out];rfl
   have N5:Aside _:=N1.out.bel G5.out
   have O5:Aside _:=a1V (ownsRow_setCell_other O2.out (a:=⟨wr.heap.size,13,none⟩) (fun h=>by have h0:W2.heap.size≤wr.heap.size:=(World.ownsRow.lt O2.out _ h).1;have:=a0L B1.out;omega) (.slice a2 x.effs.length c2)) (Nat.le_trans N1.out.i.hs G1.out.size)
   clear c6 c6' f6 hr B1 HB1 G1 G4 O2 X2
   generalize hX:X0.set 13 (.slice a2 x.effs.length c2)=X5 at b5 hX5
   clear hX
   have x5l:X5.length=k41:=by rw[HK.out,hX5];rfl
   generalize W4.setCell ⟨wr.heap.size,13,none⟩ (.slice a2 x.effs.length c2)=W5 at G5 b5 N5 O5 ⊢
   have lB:=a0I P (a0A b5) x5l
   obtain⟨v',w6,hr,ho6,hg6⟩:=a1Y t23 i41 (by decide) (T.flatMap fun p=>obV p.2 p.1) X5 (by rw[hX5];rfl) (by rw[hX5];exact a1P _ _ rfl) N5.out.i.o N5.out.i.hs (by have:=HTL.out;have:=HB.out.obs;omega)
   have g7:Below W5.heap.size W5 (W5.alloc (.cells X5.toArray 41)):=a0N (.refl _ _) (Nat.le_refl _) ((Gr.refl _).alloc _)
   have N6:Aside _:=(N5.out.bel g7).app (by decide) (.slice a2 x.effs.length c2,x) (a1K O5.out g7) hg6 (by rw[←hX5];exact ho6)
   have hfc:=a1h y41 X5 x5l
   have kb1: ¬16777216<k41:=by have:=HK.out;omega
   have kb2: ¬k41=0:=by have:=HK.out;omega
   clear ho6 hg6 g7 b5 hX5 N5 O5 x1' l6 B4
   go_wp2_with (first|(at_builtin;refine a0E rfl _ _ #[23,23] rfl v (.slice (some ⟨W5.heap.size,0,none⟩) 1 1) rfl rfl _ w6 hr ?_))
   go_roundg (S.obs.length-(i+1))
   case measure=>omega
   case rel=>exact⟨i+1,v',_,rfl,by first|rfl|go_num,by omega,Nat.le_refl _,HT2.out _,N6⟩
  ·have hltz: ¬(i:Int)<(S.obs.length:Int):=by omega
   obtain rfl:i=S.obs.length:=by omega
   have hT:=HM.out
   rw[List.take_length]at hT
   obtain⟨Ao,hA',hN⟩:=N1.out.nst (fun _ _=>rfl) (fun _=>rfl)
   rw[hT]at hA' hN
   have f1:=(a0A X2.out.c1 1 (by show 1<25;decide)).2
   have X3:Aside _:=X1.out.step N1.out.i.b (A':={a1b with p:=⟨ap,cp,a0G.ad,a0G.cp⟩,o:=Ao}) (S':={bare S with pl:=S.pl,obs:=S.obs}) (fun d=>{d with o:=hN.mono X1.out.hs (Nat.le_refl _)}) 1 (.slice Ao.a S.obs.length Ao.c)
   clear hN N1 hT X2 X1
   subst hA'
   go_upto_region 12 with fail
   clear c1 f1
   generalize wr.setCell ⟨b1,1,none⟩ (.slice Ao.a S.obs.length Ao.c)=W3 at X3 ⊢
   have hX3:(stV {A with p:=⟨ap,cp,a0G.ad,a0G.cp⟩} S).set 1 (.slice Ao.a S.obs.length Ao.c)=stV {A with p:=⟨ap,cp,a0G.ad,a0G.cp⟩,o:=Ao} S:=rfl
   rw[hX3]at X3
   clear hX3
   have cc:=a0B (a0A X3.out.c1) (j:=2) (v:=.slice A.l.a S.libs.length A.l.c) rfl
   have hh1:=H68.out A.l S.libs W3 HB.out.libs.1 HB.out.libs.2 lo hh (Nat.le_trans hhh X3.out.b.size) (HI.out.l.kp (KI.out _ X3.out.b))
   go_upto_region 13 with(go_at_fn 68;refine hh1.mono ?_;rintro e V4 ⟨A3,rfl,hL,hb⟩;have cc2:=a0B (a0A (X3.out.call hb).c1) (j:=2) (v:=.slice A.l.a S.libs.length A.l.c) rfl;have ff2:=(a0A (X3.out.call hb).c1 2 (by show 2<25;decide)).2;have X4:Aside _:=X3.out.step hb (A':={a1b with p:=⟨ap,cp,a0G.ad,a0G.cp⟩,o:=Ao,l:=A3}) (S':={bare S with pl:=S.pl,obs:=S.obs,libs:=S.libs}) (fun d=>{d with l:=hL.mono X3.out.hs (Nat.le_refl _)}) 2 (.slice A3.a S.libs.length A3.c);clear hL hb)
   clear cc cc2 ff2 hh1 X3
   generalize V4.setCell ⟨b1,2,none⟩ (.slice A3.a S.libs.length A3.c)=W4 at X4 ⊢
   have hXX:(stV {A with p:=⟨ap,cp,a0G.ad,a0G.cp⟩,o:=Ao} S).set 2 (.slice A3.a S.libs.length A3.c)=stV {A with p:=⟨ap,cp,a0G.ad,a0G.cp⟩,o:=Ao,l:=A3} S:=rfl
   rw[hXX]at X4
   clear hXX
   have cc:=a0B (a0A X4.out.c1) (j:=3) (v:=.slice A.h.a S.hands.length A.h.c) rfl
   have hh1:=H68.out A.h S.hands W4 HB.out.hands.1 HB.out.hands.2 lo hh (Nat.le_trans hhh X4.out.b.size) (HI.out.h.kp (KI.out _ X4.out.b))
   go_upto_region 14 with(go_at_fn 68;refine hh1.mono ?_;rintro e V5 ⟨A4,rfl,hL,hb⟩;have cc2:=a0B (a0A (X4.out.call hb).c1) (j:=3) (v:=.slice A.h.a S.hands.length A.h.c) rfl;have ff2:=(a0A (X4.out.call hb).c1 3 (by show 3<25;decide)).2;have X5:Aside _:=X4.out.step hb (A':={a1b with p:=⟨ap,cp,a0G.ad,a0G.cp⟩,o:=Ao,l:=A3,h:=A4}) (S':={bare S with pl:=S.pl,obs:=S.obs,libs:=S.libs,hands:=S.hands}) (fun d=>{d with h:=hL.mono X4.out.hs (Nat.le_refl _)}) 3 (.slice A4.a S.hands.length A4.c);clear hL hb)
   clear cc cc2 ff2 hh1 X4
   generalize V5.setCell ⟨b1,3,none⟩ (.slice A4.a S.hands.length A4.c)=W5 at X5 ⊢
   have hXX:(stV {A with p:=⟨ap,cp,a0G.ad,a0G.cp⟩,o:=Ao,l:=A3} S).set 3 (.slice A4.a S.hands.length A4.c)=stV {A with p:=⟨ap,cp,a0G.ad,a0G.cp⟩,o:=Ao,l:=A3,h:=A4} S:=rfl
   rw[hXX]at X5
   clear hXX
   have cc:=a0B (a0A X5.out.c1) (j:=4) (v:=.slice A.g.a S.graves.length A.g.c) rfl
   have hh1:=H68.out A.g S.graves W5 HB.out.graves.1 HB.out.graves.2 lo hh (Nat.le_trans hhh X5.out.b.size) (HI.out.g.kp (KI.out _ X5.out.b))
   go_upto_region 15 with(go_at_fn 68;refine hh1.mono ?_;rintro e V6 ⟨A5,rfl,hL,hb⟩;have cc2:=a0B (a0A (X5.out.call hb).c1) (j:=4) (v:=.slice A.g.a S.graves.length A.g.c) rfl;have ff2:=(a0A (X5.out.call hb).c1 4 (by show 4<25;decide)).2;have X6:Aside _:=X5.out.step hb (A':={a1b with p:=⟨ap,cp,a0G.ad,a0G.cp⟩,o:=Ao,l:=A3,h:=A4,g:=A5}) (S':={bare S with pl:=S.pl,obs:=S.obs,libs:=S.libs,hands:=S.hands,graves:=S.graves}) (fun d=>{d with g:=hL.mono X5.out.hs (Nat.le_refl _)}) 4 (.slice A5.a S.graves.length A5.c);clear hL hb)
   clear cc cc2 ff2 hh1 X5
   generalize V6.setCell ⟨b1,4,none⟩ (.slice A5.a S.graves.length A5.c)=W6 at X6 ⊢
   have hXX:(stV {A with p:=⟨ap,cp,a0G.ad,a0G.cp⟩,o:=Ao,l:=A3,h:=A4} S).set 4 (.slice A5.a S.graves.length A5.c)=stV {A with p:=⟨ap,cp,a0G.ad,a0G.cp⟩,o:=Ao,l:=A3,h:=A4,g:=A5} S:=rfl
   rw[hXX]at X6
   clear hXX
   have cc:=a0B (a0A X6.out.c1) (j:=5) (v:=.slice A.x.a S.exiles.length A.x.c) rfl
   have hh1:=H68.out A.x S.exiles W6 HB.out.exiles.1 HB.out.exiles.2 lo hh (Nat.le_trans hhh X6.out.b.size) (HI.out.x.kp (KI.out _ X6.out.b))
   go_upto_region 16 with(go_at_fn 68;refine hh1.mono ?_;rintro e V7 ⟨A6,rfl,hL,hb⟩;have cc2:=a0B (a0A (X6.out.call hb).c1) (j:=5) (v:=.slice A.x.a S.exiles.length A.x.c) rfl;have ff2:=(a0A (X6.out.call hb).c1 5 (by show 5<25;decide)).2;have X7:Aside _:=X6.out.step hb (A':={a1b with p:=⟨ap,cp,a0G.ad,a0G.cp⟩,o:=Ao,l:=A3,h:=A4,g:=A5,x:=A6}) (S':={bare S with pl:=S.pl,obs:=S.obs,libs:=S.libs,hands:=S.hands,graves:=S.graves,exiles:=S.exiles}) (fun d=>{d with x:=hL.mono X6.out.hs (Nat.le_refl _)}) 5 (.slice A6.a S.exiles.length A6.c);clear hL hb)
   clear cc cc2 ff2 hh1 X6
   generalize V7.setCell ⟨b1,5,none⟩ (.slice A6.a S.exiles.length A6.c)=W7 at X7 ⊢
   have hXX:(stV {A with p:=⟨ap,cp,a0G.ad,a0G.cp⟩,o:=Ao,l:=A3,h:=A4,g:=A5} S).set 5 (.slice A6.a S.exiles.length A6.c)=stV {A with p:=⟨ap,cp,a0G.ad,a0G.cp⟩,o:=Ao,l:=A3,h:=A4,g:=A5,x:=A6} S:=rfl
   rw[hXX]at X7
   clear hXX
   have cc:=a0B (a0A X7.out.c1) (j:=6) (v:=.slice A.f.a S.field.length A.f.c) rfl
   have hh1:=H69.out A.f.a S.field A.f.c W7 HB.out.field lo hh (RowsI.kp HI.out.f (KI.out _ X7.out.b))
   go_upto_region 17 with(go_at_fn 69;refine hh1.mono ?_;rintro e V8 ⟨vv,rfl,hL,hb⟩;obtain⟨a7,c7,rfl⟩:=a0o hL;have cc2:=a0B (a0A (X7.out.call hb).c1) (j:=6) (v:=.slice A.f.a S.field.length A.f.c) rfl;have ff2:=(a0A (X7.out.call hb).c1 6 (by show 6<25;decide)).2;have X8:Aside _:=X7.out.step hb (A':={a1b with p:=⟨ap,cp,a0G.ad,a0G.cp⟩,o:=Ao,l:=A3,h:=A4,g:=A5,x:=A6,f:=⟨a7,c7,a0G.ad,a0G.cp⟩}) (S':={bare S with pl:=S.pl,obs:=S.obs,libs:=S.libs,hands:=S.hands,graves:=S.graves,exiles:=S.exiles,field:=S.field}) (fun d=>{d with f:=(a0u hL rfl fun _=>rfl).mono X7.out.hs (Nat.le_refl _)}) 6 (.slice a7 S.field.length c7);clear hL hb)
   clear cc cc2 ff2 hh1 X7
   generalize V8.setCell ⟨b1,6,none⟩ (.slice a7 S.field.length c7)=W8 at X8 ⊢
   have hXX:(stV {A with p:=⟨ap,cp,a0G.ad,a0G.cp⟩,o:=Ao,l:=A3,h:=A4,g:=A5,x:=A6} S).set 6 (.slice a7 S.field.length c7)=stV {A with p:=⟨ap,cp,a0G.ad,a0G.cp⟩,o:=Ao,l:=A3,h:=A4,g:=A5,x:=A6,f:=⟨a7,c7,a0G.ad,a0G.cp⟩} S:=rfl
   rw[hXX]at X8
   clear hXX
   have cc:=a0B (a0A X8.out.c1) (j:=7) (v:=.slice A.s.a S.stack.length A.s.c) rfl
   have hh1:=H70.out A.s S.stack W8 HB.out.stack.1 HB.out.stack.2 lo hh (Nat.le_trans hhh X8.out.b.size) (HI.out.s.kp (KI.out _ X8.out.b))
   go_upto_region 18 with(go_at_fn 70;refine hh1.mono ?_;rintro e V9 ⟨A8,rfl,hL,hb⟩;have cc2:=a0B (a0A (X8.out.call hb).c1) (j:=7) (v:=.slice A.s.a S.stack.length A.s.c) rfl;have ff2:=(a0A (X8.out.call hb).c1 7 (by show 7<25;decide)).2;have X9:Aside _:=X8.out.step hb (A':={a1b with p:=⟨ap,cp,a0G.ad,a0G.cp⟩,o:=Ao,l:=A3,h:=A4,g:=A5,x:=A6,f:=⟨a7,c7,a0G.ad,a0G.cp⟩,s:=A8}) (S':={bare S with pl:=S.pl,obs:=S.obs,libs:=S.libs,hands:=S.hands,graves:=S.graves,exiles:=S.exiles,field:=S.field,stack:=S.stack}) (fun d=>{d with s:=hL.mono X8.out.hs (Nat.le_refl _)}) 7 (.slice A8.a S.stack.length A8.c);clear hL hb)
   clear cc cc2 ff2 hh1 X8
   generalize V9.setCell ⟨b1,7,none⟩ (.slice A8.a S.stack.length A8.c)=W9 at X9 ⊢
   have hXX:(stV {A with p:=⟨ap,cp,a0G.ad,a0G.cp⟩,o:=Ao,l:=A3,h:=A4,g:=A5,x:=A6,f:=⟨a7,c7,a0G.ad,a0G.cp⟩} S).set 7 (.slice A8.a S.stack.length A8.c)=stV {A with p:=⟨ap,cp,a0G.ad,a0G.cp⟩,o:=Ao,l:=A3,h:=A4,g:=A5,x:=A6,f:=⟨a7,c7,a0G.ad,a0G.cp⟩,s:=A8} S:=rfl
   rw[hXX]at X9
   clear hXX
   have cc:=a0B (a0A X9.out.c1) (j:=8) (v:=.slice A.w.a S.waits.length A.w.c) rfl
   have hh1:=H70.out A.w S.waits W9 HB.out.waits.1 HB.out.waits.2 lo hh (Nat.le_trans hhh X9.out.b.size) (HI.out.wt.kp (KI.out _ X9.out.b))
   go_upto_region 19 with(go_at_fn 70;refine hh1.mono ?_;rintro e V10 ⟨A9,rfl,hL,hb⟩;have cc2:=a0B (a0A (X9.out.call hb).c1) (j:=8) (v:=.slice A.w.a S.waits.length A.w.c) rfl;have ff2:=(a0A (X9.out.call hb).c1 8 (by show 8<25;decide)).2;have X10:Aside _:=X9.out.step hb (A':={a1b with p:=⟨ap,cp,a0G.ad,a0G.cp⟩,o:=Ao,l:=A3,h:=A4,g:=A5,x:=A6,f:=⟨a7,c7,a0G.ad,a0G.cp⟩,s:=A8,w:=A9}) (S':={bare S with pl:=S.pl,obs:=S.obs,libs:=S.libs,hands:=S.hands,graves:=S.graves,exiles:=S.exiles,field:=S.field,stack:=S.stack,waits:=S.waits}) (fun d=>{d with wt:=hL.mono X9.out.hs (Nat.le_refl _)}) 8 (.slice A9.a S.waits.length A9.c);clear hL hb)
   clear cc cc2 ff2 hh1 X9
   generalize V10.setCell ⟨b1,8,none⟩ (.slice A9.a S.waits.length A9.c)=W10 at X10 ⊢
   have hXX:(stV {A with p:=⟨ap,cp,a0G.ad,a0G.cp⟩,o:=Ao,l:=A3,h:=A4,g:=A5,x:=A6,f:=⟨a7,c7,a0G.ad,a0G.cp⟩,s:=A8} S).set 8 (.slice A9.a S.waits.length A9.c)=stV {A with p:=⟨ap,cp,a0G.ad,a0G.cp⟩,o:=Ao,l:=A3,h:=A4,g:=A5,x:=A6,f:=⟨a7,c7,a0G.ad,a0G.cp⟩,s:=A8,w:=A9} S:=rfl
   rw[hXX]at X10
   clear hXX
   have cc:=a0B (a0A X10.out.c1) (j:=21) (v:=.slice A.t.a S.cast.ts.length A.t.c) rfl
   have hh1:=H71.out A.t.a S.cast.ts A.t.c W10 HB.out.ts lo hh (RowsI.kp HI.out.t (KI.out _ X10.out.b))
   go_upto_region 20 with(go_at_fn 71;refine hh1.mono ?_;rintro e V11 ⟨vv,rfl,hL,hb⟩;obtain⟨a10,c10,rfl⟩:=a0o hL;have cc2:=a0B (a0A (X10.out.call hb).c1) (j:=21) (v:=.slice A.t.a S.cast.ts.length A.t.c) rfl;have ff2:=(a0A (X10.out.call hb).c1 21 (by show 21<25;decide)).2;have X11:Aside _:=X10.out.step hb (A':={a1b with p:=⟨ap,cp,a0G.ad,a0G.cp⟩,o:=Ao,l:=A3,h:=A4,g:=A5,x:=A6,f:=⟨a7,c7,a0G.ad,a0G.cp⟩,s:=A8,w:=A9,t:=⟨a10,c10,a0G.ad,a0G.cp⟩}) (S':=S) (fun d=>{d with t:=(a0u hL rfl fun _=>rfl).mono X10.out.hs (Nat.le_refl _)}) 21 (.slice a10 S.cast.ts.length c10);clear hL hb)
   clear cc cc2 ff2 hh1 X10
   generalize V11.setCell ⟨b1,21,none⟩ (.slice a10 S.cast.ts.length c10)=W11 at X11 ⊢
   have hXX:(stV {A with p:=⟨ap,cp,a0G.ad,a0G.cp⟩,o:=Ao,l:=A3,h:=A4,g:=A5,x:=A6,f:=⟨a7,c7,a0G.ad,a0G.cp⟩,s:=A8,w:=A9} S).set 21 (.slice a10 S.cast.ts.length c10)=stV {a1b with p:=⟨ap,cp,a0G.ad,a0G.cp⟩,o:=Ao,l:=A3,h:=A4,g:=A5,x:=A6,f:=⟨a7,c7,a0G.ad,a0G.cp⟩,s:=A8,w:=A9,t:=⟨a10,c10,a0G.ad,a0G.cp⟩} S:=rfl
   rw[hXX]at X11
   clear hXX
   generalize ({a1b with p:=⟨ap,cp,a0G.ad,a0G.cp⟩,o:=Ao,l:=A3,h:=A4,g:=A5,x:=A6,f:=⟨a7,c7,a0G.ad,a0G.cp⟩,s:=A8,w:=A9,t:=⟨a10,c10,a0G.ad,a0G.cp⟩}:Lcs)=AF at X11
   generalize hSF:stV AF S=SF at X11
   have HSF:Hid _:=hSF
   have SFl:SF.length=k31:=by rw[HK1.out,←hSF];rfl
   have SF1: ∀v∈SF,v.oneCell'=true:=by rw[←hSF];exact a4D _ _
   clear hSF
   have lB:=a0I P (a0A X11.out.c1) SFl
   have sB:=a0P P (a0A X11.out.c2) SF (by rw[SFl,HK1.out];exact HY1.out) SF1
   have b2F:=a0Y X11.out.c2 SF (by rw[SFl,HK1.out];exact HY1.out)
   have lF:=a0I P (a0A b2F) SFl
   have BF:Aside _:=a0l X11.out.h3 SF 0 X11.out.b
   have DF:Aside _:=(X11.out.d.kp (Kp.sets (.inl X11.out.h4) W11 0 SF)).mono (Nat.le_trans X11.out.h1 (Nat.le_of_lt X11.out.h2)) (Nat.le_refl _)
   clear b2F X11 SF1
   go_wp2
   refine bodyPost_ret (v:=.agg SF.toArray) (by simp[results,go_sem,Try.results40,a31,z31,lF]) rfl ?_
   refine⟨AF,by rw[HSF.out], ?_,BF.out⟩
   have:=DF.out
   rw[a1A]
   exact this
end Go.Proofs.Ytcblehiddfnafaa.canonSame
namespace Go.Proofs.Ytcblehiddfnafaa.canonSame
open Go.Shelf Go.RowKit Go.Lib Go.Sort
structure Bo(S:Std):Prop where
 pl:S.pl.length≤5
 obs:S.obs.length≤30
 libs: ∀l∈S.libs,l.length≤30
 hands: ∀l∈S.hands,l.length≤30
 graves: ∀l∈S.graves,l.length≤30
 exiles: ∀l∈S.exiles,l.length≤30
 field:S.field.length≤30
 stack:S.stack.length≤12
 waits:S.waits.length≤12
def Std.ids(S:Std):List Int:=S.obs.map Obd.id
def Std.fi(S:Std)(n:Int):Int:=fnd n S.ids
def b6x(S:Std)(p:Nat)(l:List Int):List Int:=mor S.fi (mor S.fi (mor S.fi (mor S.fi l (atL S.libs p)) (atL S.hands p)) (atL S.graves p)) (atL S.exiles p)
def a1f(S:Std)(n:Nat):List Int:=(List.range n).foldl (fun l p=>b6x S p l) []
def b6X(S:Std):List Int:=mor S.fi (a1f S S.pl.length) S.field
def b1k(S:Std)(n:Int):Bool:=decide (0≤S.fi n)&&(S.obs[(S.fi n).toNat]!).zone==5
def a6s(S:Std)(xs:List Itm):List Int:=xs.foldl (fun l x=>if b1k S x.obj then mor S.fi l [x.obj]else l) (b6X S)
def a8k(S:Std)(os:List Obd):List Int:=os.foldl (fun l o=>mor S.fi l [o.id]) (a6s S S.stack)
def a6O(S:Std)(xs:List Itm):List Int:=xs.foldl (fun l x=>if plc x.id l<l.length then l else l++ [x.id]) (a8k S S.obs)
def ord(S:Std):List Int:=a6O S (S.stack++S.waits)
theorem a6P(S:Std)(n:Nat):a1f S (n+1)=b6x S n (a1f S n):=by
 unfold a1f
 rw[List.range_succ,List.foldl_append]
 rfl
theorem a8u(S:Std)(xs:List Itm)(x:Itm):a6s S (xs++ [x])=if b1k S x.obj then mor S.fi (a6s S xs) [x.obj]else a6s S xs:=by
 unfold a6s
 rw[List.foldl_append]
 rfl
theorem a8t(S:Std)(xs:List Obd)(x:Obd):a8k S (xs++ [x])=mor S.fi (a8k S xs) [x.id]:=by
 unfold a8k
 rw[List.foldl_append]
 rfl
theorem a8s(S:Std)(xs:List Itm)(x:Itm):a6O S (xs++ [x])=if plc x.id (a6O S xs)<(a6O S xs).length then a6O S xs else a6O S xs++ [x.id]:=by
 unfold a6O
 rw[List.foldl_append]
 rfl
theorem a0g{ls:List (List Int)}(h: ∀l∈ls,l.length≤30)(p:Nat):(atL ls p).length≤30:=by
 unfold atL
 split
 ·rename_i hp
  rw[getElem!_pos ls p hp]
  exact h _ (List.getElem_mem hp)
 ·simp
theorem a3c{S:Std}(h:Bo S)(p:Nat)(l:List Int):(b6x S p l).length≤l.length+120:=by
 unfold b6x
 have:=a0a S.fi (atL S.exiles p) (mor S.fi (mor S.fi (mor S.fi l (atL S.libs p)) (atL S.hands p)) (atL S.graves p))
 have:=a0a S.fi (atL S.graves p) (mor S.fi (mor S.fi l (atL S.libs p)) (atL S.hands p))
 have:=a0a S.fi (atL S.hands p) (mor S.fi l (atL S.libs p))
 have:=a0a S.fi (atL S.libs p) l
 have:=a0g h.libs p
 have:=a0g h.hands p
 have:=a0g h.graves p
 have:=a0g h.exiles p
 omega
theorem a2C{S:Std}(h:Bo S): ∀n,(a1f S n).length≤n*120
 |0=>by simp[a1f]
 |n+1=>by
  rw[a6P]
  have:=a3c h n (a1f S n)
  have:=a2C h n
  omega
theorem b4N{S:Std}(h:Bo S):(b6X S).length≤630:=by
 unfold b6X
 have:=a0a S.fi S.field (a1f S S.pl.length)
 have:=a2C h S.pl.length
 have:=h.field
 have:=h.pl
 omega
theorem a7q{S:Std}(h:Bo S)(xs:List Itm):(a6s S xs).length≤630+xs.length:=by
 have g: ∀(xs:List Itm) (l:List Int),(xs.foldl (fun l x=>if b1k S x.obj then mor S.fi l [x.obj]else l) l).length≤l.length+xs.length:=by
  intro xs
  induction xs with
  |nil=>intro l;simp
  |cons x xs ih=>
   intro l
   rw[List.foldl_cons]
   refine Nat.le_trans (ih _) ?_
   have:=a0a S.fi [x.obj] l
   simp only[List.length_cons,List.length_nil]at this ⊢
   split<;>omega
 have:=g xs (b6X S)
 have:=b4N h
 unfold a6s
 omega
theorem a7p{S:Std}(h:Bo S)(xs:List Obd):(a8k S xs).length≤642+xs.length:=by
 have g: ∀(xs:List Obd) (l:List Int),(xs.foldl (fun l o=>mor S.fi l [o.id]) l).length≤l.length+xs.length:=by
  intro xs
  induction xs with
  |nil=>intro l;simp
  |cons x xs ih=>
   intro l
   rw[List.foldl_cons]
   refine Nat.le_trans (ih _) ?_
   have:=a0a S.fi [x.id] l
   simp only[List.length_cons,List.length_nil]at this ⊢
   omega
 have:=g xs (a6s S S.stack)
 have:=a7q h S.stack
 have:=h.stack
 unfold a8k
 omega
theorem a7o{S:Std}(h:Bo S)(xs:List Itm):(a6O S xs).length≤672+xs.length:=by
 have g: ∀(xs:List Itm) (l:List Int),(xs.foldl (fun l x=>if plc x.id l<l.length then l else l++ [x.id]) l).length≤l.length+xs.length:=by
  intro xs
  induction xs with
  |nil=>intro l;simp
  |cons x xs ih=>
   intro l
   rw[List.foldl_cons]
   refine Nat.le_trans (ih _) ?_
   split<;>simp<;>omega
 have:=g xs (a8k S S.obs)
 have:=a7p h S.obs
 have:=h.obs
 unfold a6O
 omega
theorem b2f{S:Std}(h:Bo S):(ord S).length≤696:=by
 have:=a7o h (S.stack++S.waits)
 rw[List.length_append]at this
 have:=h.stack
 have:=h.waits
 unfold ord
 omega
theorem b7T(n:Int)(l:List Int):fnd n l<(l.length:Int):=by
 unfold fnd
 split<;>omega
theorem RowsI.int{lo hi:Nat}{w:World}{a:Option Addr}{l:List Int}(h:a2o lo hi w a l){i:Nat}(hi':i<l.length): ∃B O,a=some ⟨B,O,none⟩∧lo≤B∧B<hi∧w.cell? ⟨B,O+i,none⟩=some (.int .i64 l[i]):=by
 rcases h with h|⟨B,O,e,h1,h2,h⟩
 ·rw[List.map_eq_nil_iff.1 h]at hi'
  simp at hi'
 ·refine⟨B,O,e,h1,h2, ?_⟩
  have:=h i #[.int .i64 l[i]] (by simp[hi']) 0 _ rfl
  simpa using this
theorem Nst.at{α β:Type}{lo hi:Nat}{w:World}{A:Loc}{k m:Nat}{l:List α}{f:α→Value→List Value}{inn:α→List β}{g:β→List Value}(h:Nst lo hi w A k m l f inn g){i:Nat}(hi':i<l.length)(j:Nat)(v:Value)(hv:(f l[i] (.slice (A.ad i) (inn l[i]).length (A.cp i)))[j]? =some v): ∃B O,A.a=some ⟨B,O,none⟩∧ ∀W,Kp lo hi w W→W.cell? ⟨B,O+i*k+j,none⟩=some v:=by
 obtain⟨B,O,e,h1,h2,h3⟩:=h.row hi'
 exact⟨B,O,e,fun W hW=>by rw[hW.cell (by exact h1) (by exact h2)];exact h3 j v hv⟩
theorem Kp.gr{lo hi:Nat}{W W':World}(h:Gr W W')(hh:hi≤W.heap.size):Kp lo hi W W':=Kp.grown (a0i h) hh fun k hk=>by cases hk
theorem a1D: ∀l:List Int,l.flatMap (fun n=>[Value.int .i64 n])=a0J l
 | []=>rfl
 |x::l=>by rw[List.flatMap_cons,a1D l];rfl
theorem find_ok{P:Program}{k29 k31 k41 k43 k45 k66 k97:Nat}{y29 y31 y41 y43 y45 y66 y97:List Value}(L:LayS P k29 k31 k41 k43 k45 k66 k97 y29 y31 y41 y43 y45 y66 y97)(hk:k41=14)(f19:P.funcs[19]? =some Try.f19)(A:Lcs)(S:Std)(w:World){lo hh:Nat}(hhh:hh≤w.heap.size)(hI:StI lo hh w A S)(hn:S.obs.length≤900)(n:Int):
  Calls P 19 #[.agg (stV A S).toArray,.int .i64 n] w fun e w'=>e= .returned (.int .i64 (S.fi n))∧Gr w w':=by
 have hl:S.ids.length=S.obs.length:=by unfold Std.ids;rw[List.length_map]
 refine b0D L f19 (stV A S) A.o.a S.ids A.o.c (by rw[hl];rfl) (by omega) n w fun i hi=> ?_
 have hi':i<S.obs.length:=by omega
 obtain⟨B,O,e,h⟩:=hI.o.at hi' 0 (.int .i64 S.obs[i].id) rfl
 refine⟨B,O,e,fun W hW=> ?_⟩
 have:=h W (Kp.gr hW hhh)
 rw[hk]
 have e2:S.ids[i]=S.obs[i].id:=by simp[Std.ids]
 rw[e2]
 simpa using this
theorem b5s{k29 k31 k41 k43 k45 k66 k97:Nat}{y29 y31 y41 y43 y45 y66 y97:List Value}(L:LayS Try.prog k29 k31 k41 k43 k45 k66 k97 y29 y31 y41 y43 y45 y66 y97)(hk1:k31=25)(hk:k41=14)(i3:Inf Try.prog 3 1 1000)(A:Lcs)(S:Std)(w:World){lo hh:Nat}(hhh:hh≤w.heap.size)(hI:StI lo hh w A S)(hn:S.obs.length≤900)
  (ia:Option Addr) (ids:List Int) (ic:Nat) (lv:Value) (l:List Int) (W:World) (bs:Nat) (hb1:w.heap.size≤bs) (hbs:bs≤W.heap.size) (hW:Below w.heap.size w W) (hn1:ids.length≤40) (hl:l.length≤900) (ho:W.ownsRow bs 3 1 lv l.length (a0J l))
  (hids:a2o lo hh W ia ids∨ ∃n B O,ids= [n]∧ia=some ⟨B,O,none⟩∧B<W.heap.size∧W.cell? ⟨B,O,none⟩=some (.int .i64 n)):
  Calls Try.prog 17 #[.agg (stV A S).toArray,lv,.slice ia ids.length ic] W fun e w'=> ∃lv',e= .returned lv'∧w'.ownsRow bs 3 1 lv' (mor S.fi l ids).length (a0J (mor S.fi l ids))∧Below bs W w':=by
 refine b1p L Try.func17 (enters_of Try.func19 (by kernel_rfl) rfl) (enters_of Try.func20 (by kernel_rfl) rfl) i3 (stV A S) hk1.symm S.fi ia ids ic lv l W bs hbs hn1 hl (fun n W' hW'=> ?_) (fun v l n W' hl' ho'=> ?_) (fun i hi=> ?_) ho
 ·have hb:=hW.trans (hW'.mono hb1)
  exact find_ok L hk Try.func19 A S W' (Nat.le_trans hhh hb.size) (hI.kp ((Kp.below hb lo).mono (Nat.le_refl _) hhh)) hn n
 ·obtain⟨a,c,rfl⟩:=a0o ho'
  refine(a9M l a c n W' (by omega) ?_).mono ?_
  ·rw[←a1D]at ho'
   exact(a0u (f:=fun n=>[Value.int .i64 n]) ho' rfl fun _=>rfl).rows (Nat.le_refl _)
  ·rintro e w2 ⟨h1,rfl⟩
   exact⟨h1,Gr.refl _⟩
 ·rcases hids with h|⟨n,B,O,rfl,e,hB,hc⟩
  ·obtain⟨B,O,e,h1,h2,hc⟩:=RowsI.int h hi
   refine⟨B,O,e,fun W' hW' _=> ?_⟩
   rw[hW'.cell (by show B<bs;omega)]
   exact hc
  ·obtain rfl:i=0:=by simpa using hi
   refine⟨B,O,e,fun W' _ hg=> ?_⟩
   rw[(hg rfl).cell (by exact hB)]
   exact hc
def atA(A:Loc)(ls:List (List Int))(p:Nat):Option Addr:=if p<ls.length then A.ad p else none
def atC(A:Loc)(ls:List (List Int))(p:Nat):Nat:=if p<ls.length then A.cp p else 0
theorem a9l{lo hi:Nat}{w:World}{A:Loc}{ls:List (List Int)}(h:LstI lo hi w A ls)(p:Nat):a2o lo hi w (atA A ls p) (atL ls p):=by
 by_cases hp:p<ls.length
 ·rw[atA,atL,if_pos hp,if_pos hp,getElem!_pos ls p hp]
  exact h.e p _ (List.getElem?_eq_getElem hp)
 ·rw[atL,if_neg hp]
  exact .inl rfl
set_option maxHeartbeats 4000000 in
set_option maxRecDepth 100000 in
theorem b8D(A:Loc)(ls:List (List Int))(p:Nat)(w:World){lo hh:Nat}(h:LstI lo hh w A ls):
  Calls Try.prog 18 #[.slice A.a ls.length A.c,.int .i64 p] w fun e w'=>e= .returned (.slice (atA A ls p) (atL ls p).length (atC A ls p))∧w'=w:=by
 by_cases hp:p<ls.length
 ·have hd:decide ((p:Int)≥(ls.length:Int))=false:=decide_eq_false (by omega)
  have hz:(p:Int)<(ls.length:Int):=by omega
  obtain⟨B,O,hB,hc⟩:=h.rd hp
  have c0:=hc w (Kp.refl _ _ _)
  have hat:ls[p]=atL ls p:=by rw[atL,if_pos hp,getElem!_pos ls p hp]
  have ha:A.ad p=atA A ls p:=by rw[atA,if_pos hp]
  have hcc:A.cp p=atC A ls p:=by rw[atC,if_pos hp]
  rw[hat,ha,hcc]at c0
  rw[hB]
  clear h hc hat hB ha hcc
  go_enter Try.func18,Try.ntmps18
  go_wp2
  go_returns
  exact⟨rfl,rfl⟩
 ·have hd:decide ((p:Int)≥(ls.length:Int))=true:=decide_eq_true (by omega)
  have hat:atL ls p= []:=by rw[atL,if_neg hp]
  have ha:atA A ls p=none:=by rw[atA,if_neg hp]
  have hcc:atC A ls p=0:=by rw[atC,if_neg hp]
  rw[hat,ha,hcc]
  clear h hat ha hcc
  go_enter Try.func18,Try.ntmps18
  go_wp2
  go_returns
  exact⟨rfl,rfl⟩
end Go.Proofs.Ytcblehiddfnafaa.canonSame
