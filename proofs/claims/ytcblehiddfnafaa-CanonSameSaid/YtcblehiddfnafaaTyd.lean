/-
  Regions of guarded calls, one behind the other, in any order: reckoned by the kernel.
-/
import Derived.Test.YtcblehiddfnafaaTyc
namespace Go.Proofs.Ytcblehiddfnafaa.canonSame
open Go.Shelf Go.RowKit Go.Lib Go.Sort
def evT(known:List (Nat×Sy)):Operand→Option Value
 |.func f=>some (.func (.func f) #[] #[])
 |x=>match evS known x with
  |some (.val v)=>some v
  |_=>none
def b3b(known:List (Nat×Sy)):List Operand→Option (List Value)
 | []=>some []
 |x::xs=>match evT known x,b3b known xs with
  |some v,some vs=>some (v::vs)
  |_,_=>none
def a8Z(known:List (Nat×Sy))(c:Call):Option (Nat×List Value):=
 match c.callee with
 |.value x=>match evT known x,b3b known c.args.toList with
  |some (.func (.func f) ⟨[]⟩ ⟨[]⟩),some vs=>some (f,vs)
  |_,_=>none
 |_=>none
theorem b5K{base:Nat→Nat}{l:List (Nat×Sy)}{a:Act}(h: ∀k s,look k l=some s→a.tmps[k]? =some (s.den base)){x:Operand}{v:Value}(hx:evT l x=some v):a.eval x=v:=by
 cases x with
 |func f=>
  simp only[evT,Option.some.injEq]at hx
  subst hx
  rfl
 |_=>
  unfold evT at hx
  split at hx
  ·rename_i heq
   cases heq
  ·split at hx
   ·rename_i e
    simp only[Option.some.injEq]at hx
    subst hx
    exact a0h (base:=base) h e
   ·cases hx
theorem b1N{base:Nat→Nat}{l:List (Nat×Sy)}{a:Act}(h: ∀k s,look k l=some s→a.tmps[k]? =some (s.den base)): ∀{xs:List Operand} {vs:List Value},b3b l xs=some vs→xs.map a.eval=vs
 | [],vs,hx=>by
  simp only[b3b,Option.some.injEq]at hx
  subst hx
  rfl
 |x::xs,vs,hx=>by
  simp only[b3b]at hx
  split at hx
  ·rename_i v vs' h1 h2
   simp only[Option.some.injEq]at hx
   subst hx
   rw[List.map_cons,b5K h h1,b1N h h2]
  ·cases hx
theorem a8Y{P:Program}{base:Nat→Nat}{l:List (Nat×Sy)}{c:Call}{f:Nat}{vs:List Value}(h:a8Z l c=some (f,vs)){a:Act}(hk: ∀k s,look k l=some s→a.tmps[k]? =some (s.den base))(hf: ∀args w,(callFunc f args).run P w= .ok (.enter f args) w){o:Oper}(ho:o.op= .call c)(w:World):
  (execOp a.eval o).run P w= .ok (.enter f vs.toArray) w:=by
 obtain⟨c0,xs,ts⟩:=c
 unfold a8Z at h
 split at h
 ·rename_i x hc
  simp only at hc
  subst hc
  split at h
  ·rename_i f' vs' h1 h2
   simp only[Option.some.injEq,Prod.mk.injEq]at h
   obtain⟨rfl,rfl⟩:=h
   refine a9R ho (b5K hk h1) ?_ hf
   have:=b1N hk h2
   apply Array.ext'
   simpa using this
  ·cases h
 ·cases h
def OkC(P:Program)(S:World→Prop):List (Nat×List Value)→List Bool→Prop
 | [],[]=>True
 |(f,vs)::cs,b::bs=>(∀args w,(callFunc f args).run P w= .ok (.enter f args) w)∧(∀U,S U→Calls P f vs.toArray U fun e w'=>e= .returned (.bool b)∧S w')∧OkC P S cs bs
 |_,_=>False
section
variable{P:Program}{fo:TypeId→Nat→Option Nat}{pls sls:List Nat}{cell:Nat→Nat→Option Value}{base:Nat→Nat}
def lit(N n:Nat):Array Bool:=((List.range N).map fun i=>Nat.ble (i+1) n).toArray
theorem a6U{N n:Nat}:(lit N n).setIfInBounds n true=lit N (n+1):=by
 unfold lit
 rw[List.setIfInBounds_toArray]
 congr 1
 apply List.ext_getElem
 ·simp
 ·intro i h1 h2
  rw[List.getElem_set]
  simp only[List.getElem_map,List.getElem_range]
  split
  ·rename_i h
   subst h
   exact(Nat.ble_eq_true_of_le (Nat.le_refl _)).symm
  ·rename_i h
   rw[Bool.eq_iff_iff]
   constructor
   ·intro hb
    exact Nat.ble_eq_true_of_le (Nat.le_succ_of_le (Nat.le_of_ble_eq_true hb))
   ·intro hb
    have:=Nat.le_of_ble_eq_true hb
    exact Nat.ble_eq_true_of_le (by omega)
def a2a(opsL:List Oper)(N i:Nat):Bool:=Region.free .any opsL.toArray (lit N i) i&&(Region.ready .any opsL.toArray (lit N i)).contains i
theorem b2T{opsL:List Oper}{m N:Nat}: ∀(k i:Nat) (s sf:Ps),(∀j,i≤j→j<i+k→a2a opsL N j=true)→i+k≤opsL.length→a6D fo pls sls cell 0 m opsL s ((opsL.drop i).take k)=some sf→b4B fo pls sls cell m opsL s (lit N i) (List.range' i k)=some (sf,lit N (i+k))
 |0,i,s,sf,_,_,h=>by
  simp only[List.take_zero,a6D,Option.some.injEq]at h
  subst h
  rfl
 |k+1,i,s,sf,ho,hl,h=>by
  have hi:i<opsL.length:=by omega
  rw[List.drop_eq_getElem_cons hi,List.take_succ_cons]at h
  simp only[a6D]at h
  split at h
  ·cases h
  ·rename_i s' hs
   have ih:=b2T k (i+1) s' sf (fun j h1 h2=>ho j (by omega) (by omega)) (by omega) h
   have h0:=ho i (Nat.le_refl _) (by omega)
   unfold a2a at h0
   simp only[List.range'_succ,b4B,List.getElem?_eq_getElem hi,h0,hs,a6U]
   rw[ih]
   congr 3
   omega
def b5B(t:Nat):Option Ps→Bool
 |some sf=>match look t sf.known,sf.cmps with
  |some (.val (.bool false)),[]=>true
  |_,_=>false
 |none=>false
def b0A(opsL:List Oper)(m:Nat)(s1:Ps)(i:Nat):Option (Nat×Nat×List Value):=
 match opsL[i]? with
 |none=>none
 |some o=>match o.dst,o.op with
  |some d,.call c=>match a5W opsL s1 o,Nat.blt d m,s1.cmps,a8Z s1.known c with
   |some true,true,[],some (f,vs)=>some (d,f,vs)
   |_,_,_,_=>none
  |_,_=>none
def a6p(fo:TypeId→Nat→Option Nat)(pls sls:List Nat)(cell:Nat→Nat→Option Value)(m:Nat)(opsL:List Oper)(t:Nat)(crit:List Nat):List Nat→Nat→Ps→Option (List (Nat×List Value)×Nat×Ps)
 | [],i,s=>some ([],i,s)
 |k::ks,i,s=>match a6D fo pls sls cell 0 m opsL s ((opsL.drop i).take k)with
  |none=>none
  |some s1=>match b0A opsL m s1 (i+k)with
   |none=>none
   |some (d,f,vs)=>match crit.contains (i+k)&&b5B t (a6D fo pls sls cell 0 m opsL ⟨(d,.val (.bool false))::s1.known,[],[]⟩ (opsL.drop (i+k+1)))with
    |false=>none
    |true=>match a6p fo pls sls cell m opsL t crit ks (i+k+1) ⟨(d,.val (.bool true))::s1.known,[],[]⟩with
     |none=>none
     |some (cs,r)=>some ((f,vs)::cs,r)
theorem b1c{opsL:List Oper}{m:Nat}{s1:Ps}{i d f:Nat}{vs:List Value}(h:b0A opsL m s1 i=some (d,f,vs)):
  ∃o c,opsL[i]? =some o∧o.dst=some d∧o.op= .call c∧a5W opsL s1 o=some true∧Nat.blt d m=true∧s1.cmps= []∧a8Z s1.known c=some (f,vs):=by
 unfold b0A at h
 split at h
 ·cases h
 ·rename_i o ho
  split at h
  ·rename_i d' c hd hop
   split at h
   ·rename_i h1 h2 h4 h5
    simp only[Option.some.injEq,Prod.mk.injEq]at h
    obtain⟨rfl,rfl,rfl⟩:=h
    exact⟨o,c,ho,hd,hop,h1,h2,h4,h5⟩
   ·cases h
  ·cases h
theorem a4s(F:PF P fo pls sls){S:World→Prop}(hC: ∀w,S w→ ∀i off v,cell i off=some v→w.cell? ⟨base i,off,none⟩=some v){opsL:List Oper}{m lo:Nat}{df:List Deferred}{Q:Exit→Act→World→Prop}(hsel:Region.noSelect opsL.toArray=true)(hQ: ∀c a d v w,Q (.panic c) (Act.put a d v) w→Q (.panic c) a w)
  (hord: ∀j,lo≤j→j<opsL.length→a2a opsL opsL.length j=true) {k i fuel:Nat} {s sf:Ps} {a:Act} {w:World} (hlo:lo≤i) (hk:i+k≤opsL.length) (h:a6D fo pls sls cell 0 m opsL s ((opsL.drop i).take k)=some sf) (hc:Cmp.all sf.cmps) (g:Ga base m df s.known a) (hS:S w)
  (K: ∀a',Ga base m df sf.known a'→wpAnyH P .any opsL.toArray Q S fuel (lit opsL.length (i+k)) a' w):wpAnyH P .any opsL.toArray Q S (fuel+k) (lit opsL.length i) a w:=by
 have:=b2T k i s sf (fun j h1 h2=>hord j (by omega) (by omega)) hk h
 have h2:=(a4u (fuel:=fuel) F hC hsel hQ this hc g hS K).2
 rwa [List.length_range']at h2
theorem a9f(F:PF P fo pls sls){S:World→Prop}(hC: ∀w,S w→ ∀i off v,cell i off=some v→w.cell? ⟨base i,off,none⟩=some v){opsL:List Oper}{m t lo:Nat}{crit:List Nat}{df:List Deferred}{Q:Exit→Act→World→Prop}(hsel:Region.noSelect opsL.toArray=true)(hQ: ∀c a d v w,Q (.panic c) (Act.put a d v) w→Q (.panic c) a w)
  (hord: ∀j,lo≤j→j<opsL.length→a2a opsL opsL.length j=true) (hcr: ∀c,crit.contains c=true→Region.ready .any opsL.toArray (lit opsL.length c)= [c]) (hend:Region.ready .any opsL.toArray (lit opsL.length opsL.length)= []):
  ∀{ks:List Nat} {i M:Nat} {s sf:Ps} {a:Act} {w:World} {cs:List (Nat×List Value)} {bs:List Bool},a6p fo pls sls cell m opsL t crit ks i s=some (cs,M,sf)→lo≤i→OkC P S cs bs→Ga base m df s.known a→S w→
   (bs.all id=false→ ∀a' w',a'.defers=df→a'.tmps[t]? =some (.bool false)→S w'→Q .normal a' w')→
   (bs.all id=true→ ∀a' w',Ga base m df sf.known a'→S w'→wpAnyH P .any opsL.toArray Q S (opsL.length-M) (lit opsL.length M) a' w')→wpAnyH P .any opsL.toArray Q S (opsL.length-i) (lit opsL.length i) a w
 | [],i,M,s,sf,a,w,cs,bs,h,hlo,hb,g,hS,K0,K1=>by
  simp only[a6p,Option.some.injEq,Prod.mk.injEq]at h
  obtain⟨rfl,rfl,rfl⟩:=h
  cases bs with
  |nil=>exact K1 rfl a w g hS
  |cons b bs=>exact hb.elim
 |k::ks,i,M,s,sf,a,w,cs,bs,h,hlo,hb,g,hS,K0,K1=>by
  simp only[a6p]at h
  split at h
  ·cases h
  ·rename_i s1 hr1
   split at h
   ·cases h
   ·rename_i d f vs hsc
    split at h
    ·cases h
    ·rename_i hand
     rw[Bool.and_eq_true]at hand
     obtain⟨hc0,hsg⟩:=hand
     split at h
     ·cases h
     ·rename_i cs' r hrec
      simp only[Option.some.injEq,Prod.mk.injEq]at h
      obtain⟨rfl,rfl⟩:=h
      obtain⟨o,c,ho,hd,hop,hw,hm,hcm,hct⟩:=b1c hsc
      cases bs with
      |nil=>exact hb.elim
      |cons b bs=>
       obtain⟨hf,hcall,hbs⟩:=hb
       have hil:=(List.getElem?_eq_some_iff.1 ho).1
       have hdm:d<m:=by unfold Nat.blt at hm;exact Nat.le_of_ble_eq_true hm
       have e:opsL.length-i=(opsL.length-(i+k+1)+1)+k:=by omega
       rw[e]
       refine a4s F hC hsel hQ hord hlo (by omega) hr1 (by rw[hcm];trivial) g hS (fun a1 g1=> ?_)
       refine b6O (s:=s1) (v:=fun _ u=>u= .bool b) (R:=fun _=>True) ho hd hm (hcr _ hc0) hw g1 (a8Y hct g1.k hf hop w) ?_ ?_
       ·refine Calls.mono (hcall w hS) ?_
        rintro e' w' ⟨rfl,h2⟩
        exact⟨_,rfl,rfl,h2,trivial⟩
       ·rintro w' u rfl hS' _
        have g2:=g1.put hdm (.val (.bool b))
        rw[a6U]
        cases b with
        |false=>
         unfold b5B at hsg
         split at hsg
         ·rename_i sf' hr2
          split at hsg
          ·rename_i hl hcm2
           have e2:opsL.length-(i+k+1)=0+(opsL.length-(i+k+1)):=by omega
           rw[e2]
           have e3:(opsL.drop (i+k+1)).take (opsL.length-(i+k+1))=opsL.drop (i+k+1):=by
            rw[List.take_of_length_le]
            simp
           refine a4s F hC hsel hQ hord (by omega) (by omega) (by rw[e3];exact hr2) (by rw[hcm2];trivial) g2 hS' (fun a3 g3=> ?_)
           rw[show i+k+1+(opsL.length-(i+k+1))=opsL.length by omega]
           exact wpAnyH_done hend (K0 (by simp) a3 w' g3.d (g3.k t _ hl) hS') _
          ·cases hsg
         ·cases hsg
        |true=>
         exact a9f F hC hsel hQ hord hcr hend hrec (by omega) hbs g2 hS' (fun hh=>K0 (by simpa using hh)) (fun hh=>K1 (by simpa using hh))
end
end Go.Proofs.Ytcblehiddfnafaa.canonSame
namespace Go.Proofs.Ytcblehiddfnafaa.canonSame
open Go.Shelf Go.RowKit Go.Lib Go.Sort
section
variable{P:Program}{base:Nat→Nat}{S:World→Prop}{opsL:List Oper}{m:Nat}{df:List Deferred}{Q:Exit→Act→World→Prop}
theorem a4B(hsel:Region.noSelect opsL.toArray=true)(hQ: ∀c a d v w,Q (.panic c) (Act.put a d v) w→Q (.panic c) a w){i d:Nat}{o:Oper}{s:Ps}{li:Array Bool}{a:Act}{w:World}{fuel:Nat}{v:Value}
  (ho:opsL[i]? =some o) (hd:o.dst=some d) (hm:Nat.blt d m=true) (hf:Region.free .any opsL.toArray li i=true) (hr:(Region.ready .any opsL.toArray li).contains i=true) (hw:a5W opsL s o=some true) (g:Ga base m df s.known a) (hv: ∀W,S W→(execOp a.eval o).run P W= .ok (.value v) W) (hS:S w)
  (K: ∀a',Ga base m df ((d,.val v)::s.known) a'→wpAnyH P .any opsL.toArray Q S fuel (li.setIfInBounds i true) a' w):wpAnyH P .any opsL.toArray Q S (fuel+1) li a w:=by
 have hi:opsL.toArray[i]? =some o:=by simpa using ho
 refine wpAnyH_take hi hsel hf hr (fun c a w h=>hQ c a _ _ w h) (.inl ⟨a2q (opsA:=opsL.toArray) g.k hw,hv⟩) hS ?_
 rw[hd]
 exact K _ (g.put (by unfold Nat.blt at hm;exact Nat.le_of_ble_eq_true hm) (.val v))
theorem b6P{i d f:Nat}{o:Oper}{c:Call}{s:Ps}{li:Array Bool}{a:Act}{w:World}{fuel:Nat}{vs:List Value}{u:Value}
  (ho:opsL[i]? =some o) (hd:o.dst=some d) (hop:o.op= .call c) (hm:Nat.blt d m=true) (hr:Region.ready .any opsL.toArray li= [i]) (hw:a5W opsL s o=some true) (hct:a8Z s.known c=some (f,vs)) (hf: ∀args w,(callFunc f args).run P w= .ok (.enter f args) w) (g:Ga base m df s.known a)
  (hcall:Calls P f vs.toArray w fun e w'=>e= .returned u∧S w')
  (K: ∀a' w',S w'→Ga base m df ((d,.val u)::s.known) a'→wpAnyH P .any opsL.toArray Q S fuel (li.setIfInBounds i true) a' w'):wpAnyH P .any opsL.toArray Q S (fuel+1) li a w:=by
 refine b6O (s:=s) (v:=fun _ v=>v=u) (R:=fun _=>True) ho hd hm hr hw g (a8Y hct g.k hf hop w) ?_ ?_
 ·refine Calls.mono hcall ?_
  rintro e w' ⟨rfl,h⟩
  exact⟨_,rfl,rfl,h,trivial⟩
 ·rintro w' v rfl hS' _
  exact K _ w' hS' (g.put (by unfold Nat.blt at hm;exact Nat.le_of_ble_eq_true hm) (.val v))
end
theorem b5a(S T:Std):decide (S=T)=(decide (a1E S=a1E T)&&([decide (S.pl=T.pl),decide (S.obs=T.obs),decide (S.libs=T.libs),decide (S.hands=T.hands),decide (S.graves=T.graves),decide (S.exiles=T.exiles),decide (S.field=T.field),decide (S.stack=T.stack),decide (S.waits=T.waits)].all id&&decide (S.cast=T.cast))):=by
 rw[Bool.eq_iff_iff]
 simp only[decide_eq_true_eq,Bool.and_eq_true,List.all_cons,List.all_nil,id,a1E,List.cons.injEq,and_true]
 constructor
 ·rintro rfl
  simp
 ·cases S
  cases T
  simp only[Std.mk.injEq]
  rintro⟨⟨h1,h2,h3,h4,h5,h6,h7,h8,h9,h10,h11⟩,⟨g1,g2,g3,g4,g5,g6,g7,g8,g9⟩,g10⟩
  simp_all
theorem b7s{a b c k:Nat}{x y z s:Sy}(h:look k [(a,x),(b,y),(c,z)]=some s):(k=a∧s=x)∨(k=b∧s=y)∨(k=c∧s=z):=by
 simp only[look]at h
 split at h
 ·rename_i hb
  injection h with h
  exact .inl ⟨(Nat.eq_of_beq_eq_true hb).symm,h.symm⟩
 ·split at h
  ·rename_i hb
   injection h with h
   exact .inr (.inl ⟨(Nat.eq_of_beq_eq_true hb).symm,h.symm⟩)
  ·split at h
   ·rename_i hb
    injection h with h
    exact .inr (.inr ⟨(Nat.eq_of_beq_eq_true hb).symm,h.symm⟩)
   ·cases h
theorem a5w{P:Program}{base:Nat→Nat}{S:World→Prop}{opsA:Array Oper}{m N:Nat}{df:List Deferred}{Q:Exit→Act→World→Prop}{known:List (Nat×Sy)}{li:Array Bool}{a:Act}{w:World}(g:Ga base m df known a)(K: ∀a',Ga base m df known a'→wpAnyH P .any opsA Q S N li a' w):wpAnyH P .any opsA Q S N li a w:=K a g
theorem b2L{known:List (Nat×Sy)}: ∀{K:List (Nat×Sy)},(∀p∈K,look p.1 known=some p.2)→ ∀k s,look k K=some s→look k known=some s
 | [],_,k,s,h=>by cases h
 |(j,x)::K,hK,k,s,h=>by
  simp only[look]at h
  split at h
  ·rename_i hb
   injection h with h
   obtain rfl:=Nat.eq_of_beq_eq_true hb
   rw[←h]
   exact hK (j,x) (List.mem_cons_self ..)
  ·exact b2L (fun p hp=>hK p (List.mem_cons_of_mem _ hp)) k s h
theorem b7H(P:Program)(A:Lcs)(S:Std){W:World}{b:Nat}{t:TypeId}(h:W.heap[b]? =some (.cells (stV A S).toArray t)):Sem.run P (loadCellsFrom ⟨b,18,none⟩ 0 5 #[]) W= .ok (a5H S.cast (.slice A.t.a S.cast.ts.length A.t.c)).toArray W:=by
 have:=run_loadCellsFrom_list P W ⟨b,18,none⟩ (a5H S.cast (.slice A.t.a S.cast.ts.length A.t.c)) 5 rfl fun j v hv=>by
  rw[Addr.add_lit]
  refine a0B (a0A h) ?_
  match j,hv with
  |0,hv=>exact hv
  |1,hv=>exact hv
  |2,hv=>exact hv
  |3,hv=>exact hv
  |4,hv=>exact hv
  |j+5,hv=>cases hv
 exact this
def opsOf(n:Nat):Code→Option (List Oper)
 |.seq a b=>match opsOf n a with
  |some l=>some l
  |none=>opsOf n b
 |.region m ops _=>if m=n then some ops.toList else none
 |_=>none
noncomputable def a0s:List Oper:=match Try.f14.body.bind (opsOf 2)with
 |some l=>l
 |none=>[]
noncomputable def b1j(i:Nat):Oper:=match a0s[i]? with
 |some o=>o
 |none=>⟨none,.ready 0,0,"", #[],none⟩
theorem Ga.weak{base:Nat→Nat}{m:Nat}{df:List Deferred}{known known':List (Nat×Sy)}{a:Act}(g:Ga base m df known a)(h: ∀k s,look k known'=some s→look k known=some s):Ga base m df known' a:=⟨fun k s hl=>g.k k s (h k s hl),g.m,g.d⟩
theorem b7A:((List.range 25).all fun k=>a2a a0s a0s.length (k+5))=true:=by kernel_rfl
theorem b6z:((List.range 25).all fun k=>a2a a0s a0s.length (k+30))=true:=by kernel_rfl
theorem b6y:((List.range 25).all fun k=>a2a a0s a0s.length (k+55))=true:=by kernel_rfl
theorem b7t:a0s.length=80:=by kernel_rfl
theorem b2g: ∀j,5≤j→j<a0s.length→a2a a0s a0s.length j=true:=by
 intro j h1 h2
 rw[b7t]at h2
 have q: ∀c,((List.range 25).all fun k=>a2a a0s a0s.length (k+c))=true→c≤j→j<c+25→a2a a0s a0s.length j=true:=by
  intro c hc h3 h4
  have:=List.all_eq_true.1 hc (j-c) (List.mem_range.2 (by omega))
  rwa [Nat.sub_add_cancel h3]at this
 by_cases h3:j<30
 ·exact q 5 b7A h1 h3
 ·by_cases h4:j<55
  ·exact q 30 b6z (by omega) h4
  ·exact q 55 b6y (by omega) h2
def a9d:List Nat:=[10,17,25,33,41,49,56,63,70,77]
theorem b6K:(a9d.all fun c=>Region.ready .any a0s.toArray (lit a0s.length c)== [c])=true:=by kernel_rfl
theorem a9c: ∀c,a9d.contains c=true→Region.ready .any a0s.toArray (lit a0s.length c)= [c]:=fun c hc=>eq_of_beq (List.all_eq_true.1 b6K c (by simpa using hc))
theorem b6G:Region.ready .any a0s.toArray (lit a0s.length a0s.length)= []:=by kernel_rfl
theorem b7o(A B:Lcs)(S T:Std): ∃sf,a6D foS plS [22,23,24,25,26,27,39] (b5O (stV A S) (stV B T)) 0 85 a0s ⟨[(10,.val (.bool false)),(9,.val (.agg (a0J (a1E T)).toArray)),(7,.val (.agg (a0J (a1E S)).toArray)),(8,.val (.agg (stV B T).toArray)),(6,.val (.agg (stV A S).toArray)),(2,.ptr 0 0),(3,.ptr 1 0),(5,.val (.func (.func 47) #[] #[]))],[],[]⟩ ((a0s.drop 5).take 75)=some sf∧look 4 sf.known=some (.val (.bool false))∧sf.cmps= []:=by
 have h:(a6D foS plS [22,23,24,25,26,27,39] (b5O (stV A S) (stV B T)) 0 85 a0s ⟨[(10,.val (.bool false)),(9,.val (.agg (a0J (a1E T)).toArray)),(7,.val (.agg (a0J (a1E S)).toArray)),(8,.val (.agg (stV B T).toArray)),(6,.val (.agg (stV A S).toArray)),(2,.ptr 0 0),(3,.ptr 1 0),(5,.val (.func (.func 47) #[] #[]))],[],[]⟩ ((a0s.drop 5).take 75)).map (fun r=>(look 4 r.known,r.cmps))=some (some (.val (.bool false)),[]):=by kernel_rfl
 cases hr:a6D foS plS [22,23,24,25,26,27,39] (b5O (stV A S) (stV B T)) 0 85 a0s ⟨[(10,.val (.bool false)),(9,.val (.agg (a0J (a1E T)).toArray)),(7,.val (.agg (a0J (a1E S)).toArray)),(8,.val (.agg (stV B T).toArray)),(6,.val (.agg (stV A S).toArray)),(2,.ptr 0 0),(3,.ptr 1 0),(5,.val (.func (.func 47) #[] #[]))],[],[]⟩ ((a0s.drop 5).take 75)with
 |none=>rw[hr]at h;cases h
 |some sf=>
  rw[hr]at h
  simp only[Option.map_some,Option.some.injEq,Prod.mk.injEq]at h
  exact⟨sf,rfl,h⟩
theorem b6M(A B:Lcs)(S T:Std): ∃sf,a6p foS plS [22,23,24,25,26,27,39] (b5O (stV A S) (stV B T)) 85 a0s 4 a9d [5,6,7,7,7,7,6,6,6] 5 ⟨[(10,.val (.bool true)),(9,.val (.agg (a0J (a1E T)).toArray)),(7,.val (.agg (a0J (a1E S)).toArray)),(8,.val (.agg (stV B T).toArray)),(6,.val (.agg (stV A S).toArray)),(2,.ptr 0 0),(3,.ptr 1 0),(5,.val (.func (.func 47) #[] #[]))],[],[]⟩=some ([(51,[.slice A.p.a S.pl.length A.p.c,.slice B.p.a T.pl.length B.p.c]),(52,[.slice A.o.a S.obs.length A.o.c,.slice B.o.a T.obs.length B.o.c,.func (.func 53) #[] #[]]),(47,[.slice A.l.a S.libs.length A.l.c,.slice B.l.a T.libs.length B.l.c]),(47,[.slice A.h.a S.hands.length A.h.c,.slice B.h.a T.hands.length B.h.c]),(47,[.slice A.g.a S.graves.length A.g.c,.slice B.g.a T.graves.length B.g.c]),(47,[.slice A.x.a S.exiles.length A.x.c,.slice B.x.a T.exiles.length B.x.c]),(49,[.slice A.f.a S.field.length A.f.c,.slice B.f.a T.field.length B.f.c]),(54,[.slice A.s.a S.stack.length A.s.c,.slice B.s.a T.stack.length B.s.c,.func (.func 55) #[] #[]]),(54,[.slice A.w.a S.waits.length A.w.c,.slice B.w.a T.waits.length B.w.c,.func (.func 55) #[] #[]])],71,sf)∧look 2 sf.known=some (.ptr 0 0)∧look 3 sf.known=some (.ptr 1 0)∧look 71 sf.known=some (.val (.bool true))∧look 76 sf.known=some (.val (.bool true)):=by
 have h:(a6p foS plS [22,23,24,25,26,27,39] (b5O (stV A S) (stV B T)) 85 a0s 4 a9d [5,6,7,7,7,7,6,6,6] 5 ⟨[(10,.val (.bool true)),(9,.val (.agg (a0J (a1E T)).toArray)),(7,.val (.agg (a0J (a1E S)).toArray)),(8,.val (.agg (stV B T).toArray)),(6,.val (.agg (stV A S).toArray)),(2,.ptr 0 0),(3,.ptr 1 0),(5,.val (.func (.func 47) #[] #[]))],[],[]⟩).map (fun r=>(r.1,r.2.1,look 2 r.2.2.known,look 3 r.2.2.known,look 71 r.2.2.known,look 76 r.2.2.known))=some ([(51,[.slice A.p.a S.pl.length A.p.c,.slice B.p.a T.pl.length B.p.c]),(52,[.slice A.o.a S.obs.length A.o.c,.slice B.o.a T.obs.length B.o.c,.func (.func 53) #[] #[]]),(47,[.slice A.l.a S.libs.length A.l.c,.slice B.l.a T.libs.length B.l.c]),(47,[.slice A.h.a S.hands.length A.h.c,.slice B.h.a T.hands.length B.h.c]),(47,[.slice A.g.a S.graves.length A.g.c,.slice B.g.a T.graves.length B.g.c]),(47,[.slice A.x.a S.exiles.length A.x.c,.slice B.x.a T.exiles.length B.x.c]),(49,[.slice A.f.a S.field.length A.f.c,.slice B.f.a T.field.length B.f.c]),(54,[.slice A.s.a S.stack.length A.s.c,.slice B.s.a T.stack.length B.s.c,.func (.func 55) #[] #[]]),(54,[.slice A.w.a S.waits.length A.w.c,.slice B.w.a T.waits.length B.w.c,.func (.func 55) #[] #[]])],71,some (.ptr 0 0),some (.ptr 1 0),some (.val (.bool true)),some (.val (.bool true))):=by kernel_rfl
 cases hr:a6p foS plS [22,23,24,25,26,27,39] (b5O (stV A S) (stV B T)) 85 a0s 4 a9d [5,6,7,7,7,7,6,6,6] 5 ⟨[(10,.val (.bool true)),(9,.val (.agg (a0J (a1E T)).toArray)),(7,.val (.agg (a0J (a1E S)).toArray)),(8,.val (.agg (stV B T).toArray)),(6,.val (.agg (stV A S).toArray)),(2,.ptr 0 0),(3,.ptr 1 0),(5,.val (.func (.func 47) #[] #[]))],[],[]⟩with
 |none=>rw[hr]at h;cases h
 |some r=>
  obtain⟨cs,M,sf⟩:=r
  rw[hr]at h
  simp only[Option.map_some,Option.some.injEq,Prod.mk.injEq]at h
  obtain⟨rfl,rfl,h⟩:=h
  exact⟨sf,rfl,h⟩
set_option maxHeartbeats 8000000 in
set_option maxRecDepth 100000 in
theorem b6s{P:Program}{k29 k31 k41 k43 k45 k66 k97:Nat}{y29 y31 y41 y43 y45 y66 y97:List Value}(L:LayS P k29 k31 k41 k43 k45 k66 k97 y29 y31 y41 y43 y45 y66 y97)(hk0': ¬k29=0)(hk:k31=25)(hk29:k29=5)(_hy:y31.length=k31)(f14:P.funcs[14]? =some Try.f14)(e47: ∀args w,(callFunc 47 args).run P w= .ok (.enter 47 args) w)(e49: ∀args w,(callFunc 49 args).run P w= .ok (.enter 49 args) w)(e50: ∀args w,(callFunc 50 args).run P w= .ok (.enter 50 args) w)(e51: ∀args w,(callFunc 51 args).run P w= .ok (.enter 51 args) w)(e52: ∀args w,(callFunc 52 args).run P w= .ok (.enter 52 args) w)(e54: ∀args w,(callFunc 54 args).run P w= .ok (.enter 54 args) w)(e56: ∀args w,(callFunc 56 args).run P w= .ok (.enter 56 args) w)
  (hE: ∀(a b:Operand) (l m:List Int) (_:l.length=11) (_:m.length=11) (W:World),Sem.run P (do eqGuard .eql 85 a b (.agg (a0J l).toArray) (.agg (a0J m).toArray);binOp .eql 85 (.agg (a0J l).toArray) (.agg (a0J m).toArray)) W= .ok (.bool (decide (l=m))) W)
  (h50: ∀(A:Lcs) (S:Std) (U:World),Calls P 50 #[.agg (stV A S).toArray] U fun e w'=>e= .returned (.agg (a0J (a1E S)).toArray)∧Gr U w')
  (A B:Lcs) (S T:Std) (w:World)
  (h_pl: ∀U,Gr w U→Calls P 51 #[.slice A.p.a S.pl.length A.p.c,.slice B.p.a T.pl.length B.p.c] U fun e w'=>e= .returned (.bool (decide (S.pl=T.pl)))∧Gr U w')
  (h_ob: ∀U,Gr w U→Calls P 52 #[.slice A.o.a S.obs.length A.o.c,.slice B.o.a T.obs.length B.o.c,.func (.func 53) #[] #[]] U fun e w'=>e= .returned (.bool (decide (S.obs=T.obs)))∧Gr U w')
  (h_li: ∀U,Gr w U→Calls P 47 #[.slice A.l.a S.libs.length A.l.c,.slice B.l.a T.libs.length B.l.c] U fun e w'=>e= .returned (.bool (decide (S.libs=T.libs)))∧Gr U w')
  (h_ha: ∀U,Gr w U→Calls P 47 #[.slice A.h.a S.hands.length A.h.c,.slice B.h.a T.hands.length B.h.c] U fun e w'=>e= .returned (.bool (decide (S.hands=T.hands)))∧Gr U w')
  (h_gr: ∀U,Gr w U→Calls P 47 #[.slice A.g.a S.graves.length A.g.c,.slice B.g.a T.graves.length B.g.c] U fun e w'=>e= .returned (.bool (decide (S.graves=T.graves)))∧Gr U w')
  (h_ex: ∀U,Gr w U→Calls P 47 #[.slice A.x.a S.exiles.length A.x.c,.slice B.x.a T.exiles.length B.x.c] U fun e w'=>e= .returned (.bool (decide (S.exiles=T.exiles)))∧Gr U w')
  (h_fi: ∀U,Gr w U→Calls P 49 #[.slice A.f.a S.field.length A.f.c,.slice B.f.a T.field.length B.f.c] U fun e w'=>e= .returned (.bool (decide (S.field=T.field)))∧Gr U w')
  (h_st: ∀U,Gr w U→Calls P 54 #[.slice A.s.a S.stack.length A.s.c,.slice B.s.a T.stack.length B.s.c,.func (.func 55) #[] #[]] U fun e w'=>e= .returned (.bool (decide (S.stack=T.stack)))∧Gr U w')
  (h_wa: ∀U,Gr w U→Calls P 54 #[.slice A.w.a S.waits.length A.w.c,.slice B.w.a T.waits.length B.w.c,.func (.func 55) #[] #[]] U fun e w'=>e= .returned (.bool (decide (S.waits=T.waits)))∧Gr U w')
  (h_ca: ∀U,Gr w U→Calls P 56 #[.agg (a5H S.cast (.slice A.t.a S.cast.ts.length A.t.c)).toArray,.agg (a5H T.cast (.slice B.t.a T.cast.ts.length B.t.c)).toArray] U fun e w'=>e= .returned (.bool (decide (S.cast=T.cast)))∧Gr U w'):
  Calls P 14 #[.agg (stV A S).toArray,.agg (stV B T).toArray] w fun e w'=>e= .returned (.bool (decide (S=T)))∧Gr w w':=by
 have mixed:=L.mixed
 have t31:=L.t31;have a31:=L.a31;have z31:=L.z31;have v31:=L.v31;have qu31:=run_underlying L.t31;have t29:=L.t29;have a29:=L.a29;have z29:=L.z29
 have HK:Hid (k31=25):=hk
 have HK29:Hid (k29=5):=hk29
 have hk0:Hid (¬k29=0):=hk0'
 obtain⟨g0,c1,c2⟩:=a0W w (stV A S) (stV B T) 31 31
 have G0:Aside (Gr w _):=g0
 have C1:Aside _:=c1
 have C2:Aside _:=c2
 have C_pl:Aside (∀U,Gr w U→Calls P 51 #[.slice A.p.a S.pl.length A.p.c,.slice B.p.a T.pl.length B.p.c] U fun e w'=>e= .returned (.bool (decide (S.pl=T.pl)))∧Gr U w'):=h_pl
 have C_ob:Aside (∀U,Gr w U→Calls P 52 #[.slice A.o.a S.obs.length A.o.c,.slice B.o.a T.obs.length B.o.c,.func (.func 53) #[] #[]] U fun e w'=>e= .returned (.bool (decide (S.obs=T.obs)))∧Gr U w'):=h_ob
 have C_li:Aside (∀U,Gr w U→Calls P 47 #[.slice A.l.a S.libs.length A.l.c,.slice B.l.a T.libs.length B.l.c] U fun e w'=>e= .returned (.bool (decide (S.libs=T.libs)))∧Gr U w'):=h_li
 have C_ha:Aside (∀U,Gr w U→Calls P 47 #[.slice A.h.a S.hands.length A.h.c,.slice B.h.a T.hands.length B.h.c] U fun e w'=>e= .returned (.bool (decide (S.hands=T.hands)))∧Gr U w'):=h_ha
 have C_gr:Aside (∀U,Gr w U→Calls P 47 #[.slice A.g.a S.graves.length A.g.c,.slice B.g.a T.graves.length B.g.c] U fun e w'=>e= .returned (.bool (decide (S.graves=T.graves)))∧Gr U w'):=h_gr
 have C_ex:Aside (∀U,Gr w U→Calls P 47 #[.slice A.x.a S.exiles.length A.x.c,.slice B.x.a T.exiles.length B.x.c] U fun e w'=>e= .returned (.bool (decide (S.exiles=T.exiles)))∧Gr U w'):=h_ex
 have C_fi:Aside (∀U,Gr w U→Calls P 49 #[.slice A.f.a S.field.length A.f.c,.slice B.f.a T.field.length B.f.c] U fun e w'=>e= .returned (.bool (decide (S.field=T.field)))∧Gr U w'):=h_fi
 have C_st:Aside (∀U,Gr w U→Calls P 54 #[.slice A.s.a S.stack.length A.s.c,.slice B.s.a T.stack.length B.s.c,.func (.func 55) #[] #[]] U fun e w'=>e= .returned (.bool (decide (S.stack=T.stack)))∧Gr U w'):=h_st
 have C_wa:Aside (∀U,Gr w U→Calls P 54 #[.slice A.w.a S.waits.length A.w.c,.slice B.w.a T.waits.length B.w.c,.func (.func 55) #[] #[]] U fun e w'=>e= .returned (.bool (decide (S.waits=T.waits)))∧Gr U w'):=h_wa
 have C_ca:Aside (∀U,Gr w U→Calls P 56 #[.agg (a5H S.cast (.slice A.t.a S.cast.ts.length A.t.c)).toArray,.agg (a5H T.cast (.slice B.t.a T.cast.ts.length B.t.c)).toArray] U fun e w'=>e= .returned (.bool (decide (S.cast=T.cast)))∧Gr U w'):=h_ca
 have H50:Aside (∀(A:Lcs) (S:Std) (U:World),Calls P 50 #[.agg (stV A S).toArray] U fun e w'=>e= .returned (.agg (a0J (a1E S)).toArray)∧Gr U w'):=h50
 have HE:Aside _:=hE
 have HST:Hid _:=b5a S T
 generalize hb:decide (S=T)=b at HST ⊢
 clear hb
 generalize hX0:stV A S=X0 at C1 C2 G0 ⊢
 have HX0:Hid _:=hX0
 have x0l:X0.length=k31:=by rw[HK.out,←hX0];rfl
 generalize hY0:stV B T=Y0 at C1 C2 G0 ⊢
 have HY0:Hid _:=hY0
 have y0l:Y0.length=k31:=by rw[HK.out,←hY0];rfl
 clear hX0 hY0 hk hk29 hk0' g0 c1 c2 hE h50 h_pl h_ob h_li h_ha h_gr h_ex h_fi h_st h_wa h_ca
 go_enter f14,Try.ntmps14
 go_upto_region 2 with fail
 generalize (w.alloc (.cells X0.toArray 31)).alloc (.cells Y0.toArray 31)=W0 at C1 C2 G0 ⊢
 refine Code.wp_mono (Q:=Exit.then (fun a' w'=>a'.defers= []∧a'.tmps[4]? =some (.bool b)∧Gr w w') (fun _ _ _=>False)) ?_ ?_
 ·intro e a' w' h
  cases e with
  |normal=>
   obtain⟨h1,h2,h3⟩:=h
   go_wp2
   exact a2r rfl h2 h1 ⟨rfl,h3⟩
  |_=>exact False.elim h
 refine wp_region_held_drew (S:=fun U=>Gr w U∧Gr W0 U) mixed ⟨G0.out.drew,(Gr.refl _).drew⟩ (fun hS0=> ?_)
 generalize W0.drew=U0 at hS0 ⊢
 have LX: ∀U,Gr W0 U→Sem.run P (loadCellsFrom ⟨w.heap.size,0,none⟩ 0 k31 #[]) U= .ok X0.toArray U:=fun U h=>a0I P (a0A (a0M C1.out h)) x0l
 have LY: ∀U,Gr W0 U→Sem.run P (loadCellsFrom ⟨w.heap.size+1,0,none⟩ 0 k31 #[]) U= .ok Y0.toArray U:=fun U h=>a0I P (a0A (a0M C2.out h)) y0l
 refine a5w (base:=b6b w.heap.size (w.heap.size+1)) (m:=85) (df:=[]) (known:=[(2,.ptr 0 0),(3,.ptr 1 0),(5,.val (.func (.func 47) #[] #[]))]) ⟨fun k s h=>by rcases b7s h with⟨rfl,rfl⟩|⟨rfl,rfl⟩|⟨rfl,rfl⟩<;>rfl,by rfl,by rfl⟩ (fun a1 g1=> ?_)
 generalize hops:List.toArray _=opsA
 obtain rfl:opsA=a0s.toArray:=hops.symm.trans (by kernel_rfl)
 clear hops
 have hsz:a0s.toArray.size=80:=by kernel_rfl
 rw[hsz]
 obtain rfl:=HX0.out
 obtain rfl:=HY0.out
 have hsel:Region.noSelect a0s.toArray=true:=by kernel_rfl
 have e2:a1.eval (.tmp 2)= .pointer (some ⟨w.heap.size,0,none⟩):=a0h g1.k (s:=.ptr 0 0) rfl
 have o0:(b1j 0).op= .load 31 (.tmp 2):=by kernel_rfl
 refine a4B (i:=0) (d:=6) (o:=b1j 0) (s:=⟨[(2,.ptr 0 0),(3,.ptr 1 0),(5,.val (.func (.func 47) #[] #[]))],[],[]⟩) (v:=.agg (stV A S).toArray) hsel (fun _ _ _ _ _ h=>h) (by kernel_rfl) (by kernel_rfl) (by kernel_rfl) (by kernel_rfl) (by kernel_rfl) (by kernel_rfl) g1 ?_ hS0 (fun a2 g2=> ?_)
 ·intro W hW
  have lx:=LX W hW.2
  clear hS0 hW
  unfold execOp
  simp only[o0,e2]
  go_simp
 have e3:a2.eval (.tmp 3)= .pointer (some ⟨w.heap.size+1,0,none⟩):=a0h g2.k (s:=.ptr 1 0) rfl
 have o2:(b1j 2).op= .load 31 (.tmp 3):=by kernel_rfl
 refine a4B (i:=2) (d:=8) (o:=b1j 2) (s:=⟨(6,.val (.agg (stV A S).toArray))::[(2,.ptr 0 0),(3,.ptr 1 0),(5,.val (.func (.func 47) #[] #[]))],[],[]⟩) (v:=.agg (stV B T).toArray) hsel (fun _ _ _ _ _ h=>h) (by kernel_rfl) (by kernel_rfl) (by kernel_rfl) (by kernel_rfl) (by kernel_rfl) (by kernel_rfl) g2 ?_ hS0 (fun a3 g3=> ?_)
 ·intro W hW
  have lx:=LY W hW.2
  clear hS0 hW
  unfold execOp
  simp only[o2,e3]
  go_simp
 refine b6P (i:=1) (d:=7) (f:=50) (o:=b1j 1) (c:={callee:=.value (.func 50),args:= #[.tmp 6],argTypes:= #[31]}) (s:=⟨(8,.val (.agg (stV B T).toArray))::(6,.val (.agg (stV A S).toArray))::[(2,.ptr 0 0),(3,.ptr 1 0),(5,.val (.func (.func 47) #[] #[]))],[],[]⟩) (vs:=[.agg (stV A S).toArray]) (u:=.agg (a0J (a1E S)).toArray) (by kernel_rfl) (by kernel_rfl) (by kernel_rfl) (by kernel_rfl) (by kernel_rfl) (by kernel_rfl) (by kernel_rfl) e50 g3 ?_ (fun a4 U1 hS1 g4=> ?_)
 ·refine Calls.mono (H50.out A S U0) ?_
  rintro e w' ⟨rfl,hg⟩
  exact⟨rfl,hS0.1.trans hg,hS0.2.trans hg⟩
 refine b6P (i:=3) (d:=9) (f:=50) (o:=b1j 3) (c:={callee:=.value (.func 50),args:= #[.tmp 8],argTypes:= #[31]}) (s:=⟨(7,.val (.agg (a0J (a1E S)).toArray))::(8,.val (.agg (stV B T).toArray))::(6,.val (.agg (stV A S).toArray))::[(2,.ptr 0 0),(3,.ptr 1 0),(5,.val (.func (.func 47) #[] #[]))],[],[]⟩) (vs:=[.agg (stV B T).toArray]) (u:=.agg (a0J (a1E T)).toArray) (by kernel_rfl) (by kernel_rfl) (by kernel_rfl) (by kernel_rfl) (by kernel_rfl) (by kernel_rfl) (by kernel_rfl) e50 g4 ?_ (fun a5 U2 hS2 g5=> ?_)
 ·refine Calls.mono (H50.out B T U1) ?_
  rintro e w' ⟨rfl,hg⟩
  exact⟨rfl,hS1.1.trans hg,hS1.2.trans hg⟩
 have e7:a5.eval (.tmp 7)= .agg (a0J (a1E S)).toArray:=a0h g5.k (s:=.val (.agg (a0J (a1E S)).toArray)) rfl
 have e9:a5.eval (.tmp 9)= .agg (a0J (a1E T)).toArray:=a0h g5.k (s:=.val (.agg (a0J (a1E T)).toArray)) rfl
 have o4:(b1j 4).op= .binOp .eql 85 (.tmp 7) (.tmp 9) 85:=by kernel_rfl
 refine a4B (i:=4) (d:=10) (o:=b1j 4) (s:=⟨(9,.val (.agg (a0J (a1E T)).toArray))::(7,.val (.agg (a0J (a1E S)).toArray))::(8,.val (.agg (stV B T).toArray))::(6,.val (.agg (stV A S).toArray))::[(2,.ptr 0 0),(3,.ptr 1 0),(5,.val (.func (.func 47) #[] #[]))],[],[]⟩) (v:=.bool (decide (a1E S=a1E T))) hsel (fun _ _ _ _ _ h=>h) (by kernel_rfl) (by kernel_rfl) (by kernel_rfl) (by kernel_rfl) (by kernel_rfl) (by kernel_rfl) g5 ?_ hS2 (fun a6 g6=> ?_)
 ·intro W hW
  unfold execOp
  simp only[o4,e7,e9]
  rw[Sem.run_bind,HE.out (.tmp 7) (.tmp 9) (a1E S) (a1E T) rfl rfl W]
  rfl
 have hC: ∀W,(Gr w W∧Gr W0 W)→ ∀i off v,b5O (stV A S) (stV B T) i off=some v→W.cell? ⟨b6b w.heap.size (w.heap.size+1) i,off,none⟩=some v:=fun W hW=>a3Q (a0M C1.out hW.2) (a0M C2.out hW.2)
 rw[show((((((Array.replicate 80 false).setIfInBounds 0 true).setIfInBounds 2 true).setIfInBounds 1 true).setIfInBounds 3 true).setIfInBounds 4 true)=lit a0s.length 5 from by kernel_rfl]
 cases hr0:decide (a1E S=a1E T)with
 |false=>
  rw[hr0]at g6
  have hb:b=false:=by rw[HST.out,hr0];rfl
  obtain⟨sf,hrr,q1,q3⟩:=b7o A B S T
  rw[show(75:Nat)=0+75 from rfl]
  refine a4s (pfS L hk0.out) hC hsel (fun _ _ _ _ _ h=>h) b2g (Nat.le_refl _) (Nat.le_of_ble_eq_true (by kernel_rfl)) hrr (by rw[q3];trivial) g6 hS2 (fun a7 g7=> ?_)
  exact wpAnyH_done b6G ⟨g7.d,by rw[hb];exact g7.k 4 _ q1,hS2.1⟩ _
 |true=>
  rw[hr0]at g6
  have D_pl: ∀U,(Gr w U∧Gr W0 U)→Calls P 51 #[.slice A.p.a S.pl.length A.p.c,.slice B.p.a T.pl.length B.p.c] U fun e w'=>e= .returned (.bool (decide (S.pl=T.pl)))∧(Gr w w'∧Gr W0 w'):=fun U hU=>Calls.mono (C_pl.out U hU.1) (by rintro e w' ⟨rfl,hg⟩;exact⟨rfl,hU.1.trans hg,hU.2.trans hg⟩)
  have D_ob: ∀U,(Gr w U∧Gr W0 U)→Calls P 52 #[.slice A.o.a S.obs.length A.o.c,.slice B.o.a T.obs.length B.o.c,.func (.func 53) #[] #[]] U fun e w'=>e= .returned (.bool (decide (S.obs=T.obs)))∧(Gr w w'∧Gr W0 w'):=fun U hU=>Calls.mono (C_ob.out U hU.1) (by rintro e w' ⟨rfl,hg⟩;exact⟨rfl,hU.1.trans hg,hU.2.trans hg⟩)
  have D_li: ∀U,(Gr w U∧Gr W0 U)→Calls P 47 #[.slice A.l.a S.libs.length A.l.c,.slice B.l.a T.libs.length B.l.c] U fun e w'=>e= .returned (.bool (decide (S.libs=T.libs)))∧(Gr w w'∧Gr W0 w'):=fun U hU=>Calls.mono (C_li.out U hU.1) (by rintro e w' ⟨rfl,hg⟩;exact⟨rfl,hU.1.trans hg,hU.2.trans hg⟩)
  have D_ha: ∀U,(Gr w U∧Gr W0 U)→Calls P 47 #[.slice A.h.a S.hands.length A.h.c,.slice B.h.a T.hands.length B.h.c] U fun e w'=>e= .returned (.bool (decide (S.hands=T.hands)))∧(Gr w w'∧Gr W0 w'):=fun U hU=>Calls.mono (C_ha.out U hU.1) (by rintro e w' ⟨rfl,hg⟩;exact⟨rfl,hU.1.trans hg,hU.2.trans hg⟩)
  have D_gr: ∀U,(Gr w U∧Gr W0 U)→Calls P 47 #[.slice A.g.a S.graves.length A.g.c,.slice B.g.a T.graves.length B.g.c] U fun e w'=>e= .returned (.bool (decide (S.graves=T.graves)))∧(Gr w w'∧Gr W0 w'):=fun U hU=>Calls.mono (C_gr.out U hU.1) (by rintro e w' ⟨rfl,hg⟩;exact⟨rfl,hU.1.trans hg,hU.2.trans hg⟩)
  have D_ex: ∀U,(Gr w U∧Gr W0 U)→Calls P 47 #[.slice A.x.a S.exiles.length A.x.c,.slice B.x.a T.exiles.length B.x.c] U fun e w'=>e= .returned (.bool (decide (S.exiles=T.exiles)))∧(Gr w w'∧Gr W0 w'):=fun U hU=>Calls.mono (C_ex.out U hU.1) (by rintro e w' ⟨rfl,hg⟩;exact⟨rfl,hU.1.trans hg,hU.2.trans hg⟩)
  have D_fi: ∀U,(Gr w U∧Gr W0 U)→Calls P 49 #[.slice A.f.a S.field.length A.f.c,.slice B.f.a T.field.length B.f.c] U fun e w'=>e= .returned (.bool (decide (S.field=T.field)))∧(Gr w w'∧Gr W0 w'):=fun U hU=>Calls.mono (C_fi.out U hU.1) (by rintro e w' ⟨rfl,hg⟩;exact⟨rfl,hU.1.trans hg,hU.2.trans hg⟩)
  have D_st: ∀U,(Gr w U∧Gr W0 U)→Calls P 54 #[.slice A.s.a S.stack.length A.s.c,.slice B.s.a T.stack.length B.s.c,.func (.func 55) #[] #[]] U fun e w'=>e= .returned (.bool (decide (S.stack=T.stack)))∧(Gr w w'∧Gr W0 w'):=fun U hU=>Calls.mono (C_st.out U hU.1) (by rintro e w' ⟨rfl,hg⟩;exact⟨rfl,hU.1.trans hg,hU.2.trans hg⟩)
  have D_wa: ∀U,(Gr w U∧Gr W0 U)→Calls P 54 #[.slice A.w.a S.waits.length A.w.c,.slice B.w.a T.waits.length B.w.c,.func (.func 55) #[] #[]] U fun e w'=>e= .returned (.bool (decide (S.waits=T.waits)))∧(Gr w w'∧Gr W0 w'):=fun U hU=>Calls.mono (C_wa.out U hU.1) (by rintro e w' ⟨rfl,hg⟩;exact⟨rfl,hU.1.trans hg,hU.2.trans hg⟩)
  obtain⟨sf,hcc,q2,q3,q71,q76⟩:=b6M A B S T
  rw[show(75:Nat)=a0s.length-5 from by kernel_rfl]
  refine a9f (pfS L hk0.out) hC hsel (fun _ _ _ _ _ h=>h) b2g a9c b6G (bs:=[decide (S.pl=T.pl),decide (S.obs=T.obs),decide (S.libs=T.libs),decide (S.hands=T.hands),decide (S.graves=T.graves),decide (S.exiles=T.exiles),decide (S.field=T.field),decide (S.stack=T.stack),decide (S.waits=T.waits)]) hcc (Nat.le_refl _) ⟨e51,D_pl,e52,D_ob,e47,D_li,e47,D_ha,e47,D_gr,e47,D_ex,e49,D_fi,e54,D_st,e54,D_wa,trivial⟩ g6 hS2 ?_ ?_
  ·intro hall a' w' hd ht hS'
   refine⟨hd, ?_,hS'.1⟩
   rw[ht,HST.out,hr0,hall]
   rfl
  ·intro hall a7 U3 g7 hS3
   have hbc:b=decide (S.cast=T.cast):=by rw[HST.out,hr0,hall];simp
   have g8:Ga (b6b w.heap.size (w.heap.size+1)) 85 [] [(2,.ptr 0 0),(3,.ptr 1 0),(71,.val (.bool true)),(76,.val (.bool true))] a7:=g7.weak (b2L (by simp only[List.forall_mem_cons];exact⟨q2,q3,q71,q76,by simp⟩))
   rw[show a0s.length-71=6+3 from by kernel_rfl]
   refine a4s (i:=71) (k:=3) (s:=⟨[(2,.ptr 0 0),(3,.ptr 1 0),(71,.val (.bool true)),(76,.val (.bool true))],[],[]⟩) (sf:=⟨[(79,.ptr 0 18),(78,.val (.bool true)),(77,.val (.bool true)),(2,.ptr 0 0),(3,.ptr 1 0),(71,.val (.bool true)),(76,.val (.bool true))],[],[]⟩) (pfS L hk0.out) hC hsel (fun _ _ _ _ _ h=>h) b2g (Nat.le_of_ble_eq_true rfl) (Nat.le_of_ble_eq_true (by kernel_rfl)) (by kernel_rfl) trivial g8 hS3 (fun a8 g9=> ?_)
   have x79:a8.eval (.tmp 79)= .pointer (some ⟨w.heap.size,18,none⟩):=a0h g9.k (s:=.ptr 0 18) rfl
   have o74:(b1j 74).op= .load 29 (.tmp 79):=by kernel_rfl
   refine a4B (i:=74) (d:=80) (o:=b1j 74) (s:=⟨[(79,.ptr 0 18),(78,.val (.bool true)),(77,.val (.bool true)),(2,.ptr 0 0),(3,.ptr 1 0),(71,.val (.bool true)),(76,.val (.bool true))],[],[]⟩) (v:=.agg (a5H S.cast (.slice A.t.a S.cast.ts.length A.t.c)).toArray) hsel (fun _ _ _ _ _ h=>h) (by kernel_rfl) (by kernel_rfl) (by kernel_rfl) (by kernel_rfl) (by kernel_rfl) (by kernel_rfl) g9 ?_ hS3 (fun a9 g10=> ?_)
   ·intro W hW
    have lx:=b7H P A S (a0M C1.out hW.2)
    rw[←HK29.out]at lx
    clear hS3 hW hS0 hS1 hS2
    unfold execOp
    simp only[o74,x79]
    go_simp
   rw[show(lit a0s.length (71+3)).setIfInBounds 74 true=lit a0s.length 75 from a6U,show(5:Nat)=4+1 from rfl]
   refine a4s (i:=75) (k:=1) (s:=⟨((80,.val (.agg (a5H S.cast (.slice A.t.a S.cast.ts.length A.t.c)).toArray))::[(79,.ptr 0 18),(78,.val (.bool true)),(77,.val (.bool true)),(2,.ptr 0 0),(3,.ptr 1 0),(71,.val (.bool true)),(76,.val (.bool true))]),[],[]⟩) (sf:=⟨((81,.ptr 1 18)::((80,.val (.agg (a5H S.cast (.slice A.t.a S.cast.ts.length A.t.c)).toArray))::[(79,.ptr 0 18),(78,.val (.bool true)),(77,.val (.bool true)),(2,.ptr 0 0),(3,.ptr 1 0),(71,.val (.bool true)),(76,.val (.bool true))])),[],[]⟩) (pfS L hk0.out) hC hsel (fun _ _ _ _ _ h=>h) b2g (Nat.le_of_ble_eq_true rfl) (Nat.le_of_ble_eq_true (by kernel_rfl)) (by kernel_rfl) trivial g10 hS3 (fun a10 g11=> ?_)
   have x81:a10.eval (.tmp 81)= .pointer (some ⟨w.heap.size+1,18,none⟩):=a0h g11.k (s:=.ptr 1 18) rfl
   have o76:(b1j 76).op= .load 29 (.tmp 81):=by kernel_rfl
   refine a4B (i:=76) (d:=82) (o:=b1j 76) (s:=⟨((81,.ptr 1 18)::((80,.val (.agg (a5H S.cast (.slice A.t.a S.cast.ts.length A.t.c)).toArray))::[(79,.ptr 0 18),(78,.val (.bool true)),(77,.val (.bool true)),(2,.ptr 0 0),(3,.ptr 1 0),(71,.val (.bool true)),(76,.val (.bool true))])),[],[]⟩) (v:=.agg (a5H T.cast (.slice B.t.a T.cast.ts.length B.t.c)).toArray) hsel (fun _ _ _ _ _ h=>h) (by kernel_rfl) (by kernel_rfl) (by kernel_rfl) (by kernel_rfl) (by kernel_rfl) (by kernel_rfl) g11 ?_ hS3 (fun a11 g12=> ?_)
   ·intro W hW
    have lx:=b7H P B T (a0M C2.out hW.2)
    rw[←HK29.out]at lx
    clear hS3 hW hS0 hS1 hS2
    unfold execOp
    simp only[o76,x81]
    go_simp
   rw[show(lit a0s.length (75+1)).setIfInBounds 76 true=lit a0s.length 77 from a6U]
   refine b6P (i:=77) (d:=83) (f:=56) (o:=b1j 77) (c:={callee:=.value (.func 56),args:= #[.tmp 80,.tmp 82],argTypes:= #[29,29]}) (s:=⟨((82,.val (.agg (a5H T.cast (.slice B.t.a T.cast.ts.length B.t.c)).toArray))::((81,.ptr 1 18)::((80,.val (.agg (a5H S.cast (.slice A.t.a S.cast.ts.length A.t.c)).toArray))::[(79,.ptr 0 18),(78,.val (.bool true)),(77,.val (.bool true)),(2,.ptr 0 0),(3,.ptr 1 0),(71,.val (.bool true)),(76,.val (.bool true))]))),[],[]⟩) (vs:=[.agg (a5H S.cast (.slice A.t.a S.cast.ts.length A.t.c)).toArray,.agg (a5H T.cast (.slice B.t.a T.cast.ts.length B.t.c)).toArray]) (u:=.bool (decide (S.cast=T.cast))) (by kernel_rfl) (by kernel_rfl) (by kernel_rfl) (by kernel_rfl) (a9c 77 rfl) (by kernel_rfl) (by kernel_rfl) e56 g12 ?_ (fun a12 U4 hS4 g13=> ?_)
   ·refine Calls.mono (C_ca.out U3 hS3.1) ?_
    rintro e w' ⟨rfl,hg⟩
    exact⟨rfl,hS3.1.trans hg,hS3.2.trans hg⟩
   rw[←hbc]at g13
   rw[show(lit a0s.length 77).setIfInBounds 77 true=lit a0s.length 78 from a6U,show(2:Nat)=0+2 from rfl]
   refine a4s (i:=78) (k:=2) (s:=⟨(83,.val (.bool b))::((82,.val (.agg (a5H T.cast (.slice B.t.a T.cast.ts.length B.t.c)).toArray))::((81,.ptr 1 18)::((80,.val (.agg (a5H S.cast (.slice A.t.a S.cast.ts.length A.t.c)).toArray))::[(79,.ptr 0 18),(78,.val (.bool true)),(77,.val (.bool true)),(2,.ptr 0 0),(3,.ptr 1 0),(71,.val (.bool true)),(76,.val (.bool true))]))),[],[]⟩) (sf:=⟨(4,.val (.bool b))::(84,.val (.bool b))::(83,.val (.bool b))::((82,.val (.agg (a5H T.cast (.slice B.t.a T.cast.ts.length B.t.c)).toArray))::((81,.ptr 1 18)::((80,.val (.agg (a5H S.cast (.slice A.t.a S.cast.ts.length A.t.c)).toArray))::[(79,.ptr 0 18),(78,.val (.bool true)),(77,.val (.bool true)),(2,.ptr 0 0),(3,.ptr 1 0),(71,.val (.bool true)),(76,.val (.bool true))]))),[],[]⟩) (pfS L hk0.out) hC hsel (fun _ _ _ _ _ h=>h) b2g (Nat.le_of_ble_eq_true rfl) (Nat.le_of_ble_eq_true (by kernel_rfl)) (by kernel_rfl) trivial g13 hS4 (fun a13 g14=> ?_)
   exact wpAnyH_done b6G ⟨g14.d,g14.k 4 _ rfl,hS4.1⟩ _
end Go.Proofs.Ytcblehiddfnafaa.canonSame
