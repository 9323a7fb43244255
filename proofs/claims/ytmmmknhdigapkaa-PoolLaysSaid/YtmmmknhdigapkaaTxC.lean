/-
  Functions whose parts change nothing that is there: contracts by their parts, each run by the kernel.
-/
import Derived.Test.YtmmmknhdigapkaaTxB
import Derived.Test.YtmmmknhdigapkaaEvQe
namespace Go.Proofs.Ytmmmknhdigapkaa.plq
open Go.Ev Go.RowKit
set_option linter.unusedVariables false
noncomputable section
def InL(φ:Phi):List (Nat×VV)→List (Nat×Value)→Prop
 | [],[]=>True
 |p::l,q::m=>(p.1=q.1∧p.1<top∧VR φ p.2 q.2)∧InL φ l m
 |_,_=>False
def OutL(φ:Phi):List (Nat×VV)→List (Nat×Value)→Prop
 | [],[]=>True
 |p::l,q::m=>(p.1=q.1∧ ∀v,VR φ p.2 v→v=q.2)∧OutL φ l m
 |_,_=>False
def d7t(nt:Nat)(tl:List (Nat×Value))(act:Act):Prop:=act.tmps.size=nt∧act.defers= []∧ ∀q∈tl,act.tmps.getD q.1 undef=q.2
theorem InL.rel{φ:Phi}{act:Act}: ∀{l:List (Nat×VV)} {tl:List (Nat×Value)},InL φ l tl→(∀q∈tl,act.tmps.getD q.1 undef=q.2)→ ∀p∈l,p.1<top∧VR φ p.2 (act.tmps.getD p.1 undef)
 | [],_,_,_,p,hp=>by cases hp
 |x::l,[],h,_,p,hp=>h.elim
 |x::l,q::m,h,hq,p,hp=>by
  obtain⟨⟨h1,h2,h3⟩,h4⟩:=h
  rcases List.mem_cons.1 hp with rfl|hp
  ·refine⟨h2, ?_⟩
   rw[h1,hq q List.mem_cons_self]
   exact h3
  ·exact InL.rel h4 (fun q hq'=>hq q (List.mem_cons_of_mem _ hq')) p hp
theorem OutL.at{φ:Phi}{act:Act}: ∀{l:List (Nat×VV)} {tl:List (Nat×Value)},OutL φ l tl→(∀p∈l,VR φ p.2 (act.tmps.getD p.1 undef))→ ∀q∈tl,act.tmps.getD q.1 undef=q.2
 |_,[],_,_,q,hq=>by cases hq
 | [],x::m,h,_,q,hq=>h.elim
 |p::l,x::m,h,hp,q,hq=>by
  obtain⟨⟨h1,h2⟩,h4⟩:=h
  rcases List.mem_cons.1 hq with rfl|hq
  ·rw[←h1]
   exact h2 _ (hp p List.mem_cons_self)
  ·exact OutL.at h4 (fun p hp'=>hp p (List.mem_cons_of_mem _ hp')) q hq
def b8d(P:Program)(K:List KE)(K2:List KE2)(nt:Nat)(S:List Nat)(body:Code)(t:Nat)(l:List (Nat×VV))(E:Env):Option SegO:=match ctx t body 0 []with
 |some (c,K')=>seg (d7M P K K2) nt S 1000 c (t+1) (.lp c t::K') (mkT nt l) ⟨E,.lf,0⟩
 |none=>none
def d0z(P:Program)(K:List KE)(K2:List KE2)(nt:Nat)(S:List Nat)(body:Code)(l:List VV)(E:Env):Option SegO:=seg (d7M P K K2) nt S 1000 body 0 [] (a3r l 0 .lf) ⟨E,.lf,0⟩
structure Pl(σ:Type) where
 lab:σ→Nat
 mu:σ→Nat
 tl:σ→List (Nat×Value)
 good:σ→Prop
def e2q(P:Program)(res:List ResultVar){σ:Type}(p:Pl σ)(m:Nat)(ρ:Rho)(r:Value):SegO→Prop
 |.cut t a H=> ∃s l,p.good s∧p.mu s<m∧p.lab s=t∧a8U a l=true∧ ∀φ:Phi,φ.ρ=ρ→OutL φ l (p.tl s)
 |.out x a H=>x= .ret∧ ∃v,a5r P a H res=some [v]∧ ∀φ:Phi,φ.ρ=ρ→ ∀u,VR φ v u→u=r
structure RunA(P:Program)(fn:Func)(S:List Nat)(body:Code){σ:Type}(p:Pl σ)(s:σ)(r:Value)(w:World) where
 K:List KE
 K2:List KE2
 ρ:Rho
 E:Env
 l:List (Nat×VV)
 so:SegO
 inl:InL ⟨fun _=>none,ρ⟩ l (p.tl s)
 env: @EnvOK (a0g P K K2) E ⟨fun _=>none,ρ⟩ w
 blk: ∀r,E.blk r=none
 run:b8d P K K2 fn.ntmps S body (p.lab s) l E=some so
 out:e2q P fn.results.toList p (p.mu s) ρ r so
structure Run0(P:Program)(fn:Func)(S:List Nat)(body:Code){σ:Type}(p:Pl σ)(M:Nat)(args:List Value)(r:Value)(w:World) where
 K:List KE
 K2:List KE2
 ρ:Rho
 E:Env
 l:List VV
 so:SegO
 arg:VRs ⟨fun _=>none,ρ⟩ l args
 len:l.length≤fn.ntmps
 env: @EnvOK (a0g P K K2) E ⟨fun _=>none,ρ⟩ w
 blk: ∀r,E.blk r=none
 run:d0z P K K2 fn.ntmps S body l E=some so
 out:e2q P fn.results.toList p M ρ r so
def plQ(P:Program)(fn:Func)(r:Value)(w0:World):Exit→Act→World→Prop:=fun e act w=>(e= .ret∨e= .normal)∧act.defers= []∧ ∃v,(results fn act.tmps).run P w= .ok v w∧Ending.returned v= .returned r∧Below w0.heap.size w0 w
theorem b5z{w w':World}(h:Anc w w'):Below w.heap.size w w':=⟨h.wk.os,h.wk.tape,h.wk.output,h.wk.size,h.old⟩
def plI{σ:Type}(p:Pl σ)(nt:Nat)(w0:World)(k t:Nat)(act:Act)(w:World):Prop:= ∃s,p.good s∧p.mu s=k∧p.lab s=t∧d7t nt (p.tl s) act∧Anc w0 w
theorem Beh.anc[Ext]{f0:Nat→Option Inf}{ρ:Rho}{nt:Nat}{w:World}{a':VT}{H':VH}{act':Act}{w':World}{φ:Phi}{w1:World}(b:Beh w1 f0 (fun _=>False) ρ nt w a' H' act' w' φ):Anc w w':=⟨b.wk,fun k hk=>b.same k hk (fun h=>h)⟩
section
variable{P:Program}(hng:a4B P)(hm:P.follows .mixedOrders=true){fn:Func}{body:Code}{S:List Nat}{σ:Type}{p:Pl σ}{r:Value}{w0:World}
include hng hm
theorem b8m(hnt:fn.ntmps≤top)(h1: ∀s,p.good s→ ∀w,Anc w0 w→Nonempty (RunA P fn S body p s r w)):
  ∀k t act w,plI p fn.ntmps w0 k t act w→ ∀c K,ctx t body 0 []=some (c,K)→At1 body (.loop c) t K→KOK body K→ ∀HD:Nat→Act→World→Prop,(∀t' act' w',(∃j,j<k∧plI p fn.ntmps w0 j t' act' w')→HD t' act' w'∧ ∀c' K',ctx t' body 0 []=some (c',K')→(Code.loop c').wpIn (Fr none) 0 P (a0X P HD (plQ P fn r w0) K') act' w')→
   c.wpIn (Fr none) 0 P (a0X P HD (plQ P fn r w0) (.lp c t::K)) act w:=by
 rintro k t act w ⟨s,hg,rfl,rfl,⟨hsz,hd,htl⟩,an⟩ c K hc hat hko HD hHD
 obtain⟨q⟩:=h1 s hg w an
 obtain⟨KK,K2,ρ,E,l,so,inl,env,blk,run,out⟩:=q
 unfold b8d at run
 rw[hc]at run
 simp only at run
 letI:Ext:=a0g P KK K2
 refine a9M (X:=a0g P KK K2) (ρ:=ρ) (a9T hng hm) hnt hat.loop.2 hko run (c0o hsz hnt (inl.rel htl)) env blk hsz hd (fun k h=>h) ?_
 cases so with
 |cut t' a' H'=>
  intro act' w' φ b
  obtain⟨s',l',g1,g2,g3,g4,g5⟩:=out
  have hq:=a5B b.tr g4
  exact hHD t' act' w' ⟨_,g2,s',g1,rfl,g3,⟨b.sz,b.df,(g5 φ b.rho).at hq⟩,an.trans (Beh.anc b)⟩
 |out x a' H'=>
  intro act' w' φ b
  obtain⟨rfl,v,g1,g2⟩:=out
  obtain⟨v',r1,r2⟩:=a0w (P:=P) b.tr b.sim (fn:=fn) g1
  exact⟨.inl rfl,b.df,v',r1,by rw[g2 φ b.rho v' r2],b5z (an.trans (Beh.anc b))⟩
theorem a5A{f:FuncId}(hf:P.funcs[f]? =some fn)(hb:fn.body=some body)(hnt:fn.ntmps≤top)(p:Pl σ)(M:Nat){args:List Value}(h0:Nonempty (Run0 P fn S body p M args r w0))(h1: ∀s,p.good s→ ∀w,Anc w0 w→Nonempty (RunA P fn S body p s r w)):
  Calls P f ⟨args⟩ w0 fun e w'=>e= .returned r∧Below w0.heap.size w0 w':=by
 refine a5N hf hb ?_
 obtain⟨q⟩:=h0
 obtain⟨KK,K2,ρ,E,l,so,arg,len,env,blk,run,out⟩:=q
 letI:Ext:=a0g P KK K2
 have hat:At1 body body 0 []:=fun t _ _=>rfl
 have ht:=b9u arg len hnt
 generalize hact:({tmps:=(⟨args⟩:Array Value)++Array.replicate (fn.ntmps-(⟨args⟩:Array Value).size) undef,defers:=[]}:Act)=act0
 have hsz:act0.tmps.size=fn.ntmps:=by
  subst hact
  have:=a0M _ _ arg
  simp only[Array.size_append,Array.size_replicate,List.size_toArray]
  omega
 have hd:act0.defers= []:=by subst hact;rfl
 have ht:TR ⟨fun _=>none,ρ⟩ (a3r l 0 .lf) act0.tmps:=by subst hact;exact ht
 show body.wpIn (Fr none) 0 P (plQ P fn r w0) act0 w0
 have key:=a9M (X:=a0g P KK K2) (ρ:=ρ) (HD:=fun t act w=> ∃j,j≤M∧plI p fn.ntmps w0 j t act w) (Q:=plQ P fn r w0) (a9T hng hm) hnt hat (K:=[]) trivial run ht env blk hsz hd (fun k h=>h) ?_
 ·exact key
 cases so with
 |cut t' a' H'=>
  intro act' w' φ b
  obtain⟨s',l',g1,g2,g3,g4,g5⟩:=out
  have hq:=a5B b.tr g4
  have hI:plI p fn.ntmps w0 (p.mu s') t' act' w':=⟨s',g1,rfl,g3,⟨b.sz,b.df,(g5 φ b.rho).at hq⟩,Beh.anc b⟩
  refine⟨⟨_,Nat.le_of_lt g2,hI⟩,fun c' K' hc'=> ?_⟩
  have:=b5M (b8m hng hm hnt h1) M t' c' K' hc' M (Nat.le_refl _) act' w' ⟨_,Nat.le_of_lt g2,hI⟩
  exact this
 |out x a' H'=>
  intro act' w' φ b
  obtain⟨rfl,v,g1,g2⟩:=out
  obtain⟨v',r1,r2⟩:=a0w (P:=P) b.tr b.sim (fn:=fn) g1
  exact⟨.inl rfl,b.df,v',r1,by rw[g2 φ b.rho v' r2],b5z (Beh.anc b)⟩
end
def okV(v:Value):Value:=match v.oneCell' with|true=>v|false=>.bool false
theorem d1g(v:Value):(okV v).oneCell'=true:=by
 unfold okV
 split
 ·assumption
 ·rfl
structure Sy where
 ints:List Int
 vals:List Value
 bl:List (Nat×Nat)
def Sy.rho(s:Sy):Rho:=⟨fun k=>s.ints.getD k 0,fun k=>okV (s.vals.getD k (.bool false)),fun k=>(s.bl.getD k (0,0)).1,fun k=>(s.bl.getD k (0,0)).2,fun k=>d1g _,fun _=>[],fun _ _ h=>by cases h⟩
def IvL:Ivs→List Int→Prop
 |_,[]=>True
 | [],x::l=>I64 x∧IvL [] l
 |(a,b)::iv,x::l=>(a≤x∧x≤b)∧IvL iv l
def c1o:Ivs→Nat→Bool
 | [],_=>true
 |_::iv,n+1=>c1o iv n
 |(a,b)::iv,0=>match decide (a≤0),decide (0≤b)with
  |true,true=>c1o iv 0
  |_,_=>false
theorem c1A: ∀{iv:Ivs},c1o iv 0=true→ ∀i,(a2I iv i).1≤0∧0≤(a2I iv i).2
 | [],_,i=>by show(-9223372036854775808:Int)≤0∧(0:Int)≤9223372036854775807;omega
 |(a,b)::iv,h,i=>by
  simp only[c1o]at h
  split at h
  ·rename_i h1 h2
   match i with
   |0=>exact⟨of_decide_eq_true h1,of_decide_eq_true h2⟩
   |i+1=>exact c1A h i
  ·cases h
theorem c5I: ∀{iv:Ivs} {l:List Int},IvL iv l→c1o iv l.length=true→ ∀i,(a2I iv i).1≤l.getD i 0∧l.getD i 0≤(a2I iv i).2
 | [],[],_,_,i=>by show(-9223372036854775808:Int)≤0∧(0:Int)≤9223372036854775807;omega
 |(a,b)::iv,[],_,h,i=>c1A h i
 | [],x::l,h,_,0=>h.1
 | [],x::l,h,hz,i+1=>by
  have:=c5I (iv:=[]) (l:=l) h.2 rfl i
  exact this
 |(a,b)::iv,x::l,h,_,0=>h.1
 |(a,b)::iv,x::l,h,hz,i+1=>c5I (iv:=iv) (l:=l) h.2 hz i
def c8D{α:Type}(k:Nat):List (Nat×α)→Option α
 | []=>none
 |p::l=>match Nat.beq k p.1 with
  |true=>some p.2
  |false=>c8D k l
theorem b7D{α:Type}{k:Nat}{a:α}: ∀{l:List (Nat×α)},c8D k l=some a→(k,a)∈l
 | [],h=>by cases h
 |p::l,h=>by
  simp only[c8D]at h
  split at h
  ·rename_i hb
   cases h
   rw[Nat.eq_of_beq_eq_true hb]
   exact List.mem_cons_self
  ·exact List.mem_cons_of_mem _ (b7D h)
def b4F(iv:Ivs)(fs:List Fact)(sb:List (Nat×List VV)):Env:=⟨fun _=>none,a2I iv,fs,fun i=>c8D i sb⟩
def CellsAt(w:World)(B O:Nat)(l:List Value):Prop:=B<w.heap.size∧ ∀j v,l[j]? =some v→w.cell? ⟨B,O+j,none⟩=some v
theorem CellsAt.later{w w':World}{B O:Nat}{l:List Value}(h:CellsAt w B O l)(an:Anc w w'):CellsAt w' B O l:=
 ⟨Nat.lt_of_lt_of_le h.1 an.wk.size,fun j v hj=>by
  rw[←h.2 j v hj]
  unfold World.cell?
  rw[an.old _ h.1]⟩
theorem d0C{φ:Phi}: ∀{xs:List VV} {vs:List Value} {j:Nat} {x:VV},VRs φ xs vs→xs[j]? =some x→ ∃v,vs[j]? =some v∧VR φ x v
 | [],_,j,x,_,hx=>by simp at hx
 |y::xs,vs,0,x,h,hx=>by
  simp only[VRs]at h
  obtain⟨v,ws,rfl,h1,h2⟩:=h
  cases hx
  exact⟨v,rfl,h1⟩
 |y::xs,vs,j+1,x,h,hx=>by
  simp only[VRs]at h
  obtain⟨v,ws,rfl,h1,h2⟩:=h
  obtain⟨u,g1,g2⟩:=d0C h2 (by simpa using hx)
  exact⟨u,by simpa using g1,g2⟩
theorem a0h{X:Ext}{iv:Ivs}{fs:List Fact}{sb:List (Nat×List VV)}{s:Sy}{w:World}(hx:X.ok s.rho w)(hz:c1o iv s.ints.length=true)(hi:IvL iv s.ints)(hf:b0j fs s.rho)
  (hs: ∀q∈sb,∃vs,CellsAt w (s.bl.getD q.1 (0,0)).1 (s.bl.getD q.1 (0,0)).2 vs∧VRs ⟨fun _=>none,s.rho⟩ q.2 vs): @EnvOK X (b4F iv fs sb) ⟨fun _=>none,s.rho⟩ w:=by
 refine @EnvOK.mk X _ _ _ hx (c5I hi hz) (fun x hx=>FactOK.w (hf x hx)) fun k c hk=> ?_
 obtain⟨vs,h1,h2⟩:=hs _ (b7D hk)
 refine⟨h1.1,fun j x hx=> ?_⟩
 obtain⟨v,g1,g2⟩:=d0C h2 hx
 exact⟨v,h1.2 j v g1,g2⟩
theorem a0D{φ:Phi}{x:VV}{v:Value}{l:List VV}{vs:List Value}(h:VR φ x v)(k:VRs φ l vs):VRs φ (x::l) (v::vs):=by
 simp only[VRs]
 exact⟨v,vs,rfl,h,k⟩
theorem a4f{φ:Phi}:VRs φ [] []:=by simp only[VRs]
end
end Go.Proofs.Ytmmmknhdigapkaa.plq
namespace Go.Proofs.Ytmmmknhdigapkaa.plq
open Go.Ev Go.RowKit
set_option linter.unusedVariables false
noncomputable section
def n64(n:Int):Value:=.int .i64 n
def i8(n:Int):VV:=.int .i64 n
def b4H(t:Nat)(l:List (Nat×VV)):Option SegO→Bool
 |some (.cut t' a H)=>match Nat.beq t t' with
  |true=>a8U a l
  |false=>false
 |_=>false
def b8A(P:Program)(res:List ResultVar)(x:VV):Option SegO→Bool
 |some (.out .ret a H)=>match a5r P a H res with
  |some [v]=>a1P v x
  |_=>false
 |_=>false
theorem c5q{t:Nat}{l:List (Nat×VV)}{o:Option SegO}(h:b4H t l o=true): ∃a H,o=some (.cut t a H)∧a8U a l=true:=by
 unfold b4H at h
 split at h
 ·split at h
  ·rename_i hb
   rw[Nat.eq_of_beq_eq_true hb]
   exact⟨_,_,rfl,h⟩
  ·cases h
 ·cases h
theorem c4K{P:Program}{res:List ResultVar}{x:VV}{o:Option SegO}(h:b8A P res x o=true): ∃a H,o=some (.out .ret a H)∧a5r P a H res=some [x]:=by
 unfold b8A at h
 split at h
 ·split at h
  ·rename_i h1
   rw[a0m _ _ h]at h1
   exact⟨_,_,rfl,h1⟩
  ·cases h
 ·cases h
section
variable{P:Program}{fn:Func}{body:Code}{S:List Nat}{σ:Type}{p:Pl σ}{r:Value}{w:World}{K:List KE}{K2:List KE2}{sy:Sy}{E:Env}
theorem a2s{s:σ}(s':σ){l l':List (Nat×VV)}(hk:b4H (p.lab s') l' (b8d P K K2 fn.ntmps S body (p.lab s) l E)=true)(inl:InL ⟨fun _=>none,sy.rho⟩ l (p.tl s))(env: @EnvOK (a0g P K K2) E ⟨fun _=>none,sy.rho⟩ w)(blk: ∀r,E.blk r=none)
  (good:p.good s') (mu:p.mu s'<p.mu s) (outl: ∀φ:Phi,φ.ρ=sy.rho→OutL φ l' (p.tl s')):Nonempty (RunA P fn S body p s r w):=by
 obtain⟨a,H,h1,h2⟩:=c5q hk
 exact⟨⟨K,K2,sy.rho,E,l,_,inl,env,blk,h1,s',l',good,mu,rfl,h2,outl⟩⟩
theorem run_ret{s:σ}{l:List (Nat×VV)}{x:VV}(hk:b8A P fn.results.toList x (b8d P K K2 fn.ntmps S body (p.lab s) l E)=true)(inl:InL ⟨fun _=>none,sy.rho⟩ l (p.tl s))(env: @EnvOK (a0g P K K2) E ⟨fun _=>none,sy.rho⟩ w)(blk: ∀r,E.blk r=none)
  (out: ∀φ:Phi,φ.ρ=sy.rho→ ∀u,VR φ x u→u=r):Nonempty (RunA P fn S body p s r w):=by
 obtain⟨a,H,h1,h2⟩:=c4K hk
 exact⟨⟨K,K2,sy.rho,E,l,_,inl,env,blk,h1,rfl,x,h2,out⟩⟩
theorem b4l{M:Nat}{args:List Value}(s':σ){l:List VV}{l':List (Nat×VV)}(hk:b4H (p.lab s') l' (d0z P K K2 fn.ntmps S body l E)=true)(arg:VRs ⟨fun _=>none,sy.rho⟩ l args)(len:l.length≤fn.ntmps)(env: @EnvOK (a0g P K K2) E ⟨fun _=>none,sy.rho⟩ w)(blk: ∀r,E.blk r=none)
  (good:p.good s') (mu:p.mu s'<M) (outl: ∀φ:Phi,φ.ρ=sy.rho→OutL φ l' (p.tl s')):Nonempty (Run0 P fn S body p M args r w):=by
 obtain⟨a,H,h1,h2⟩:=c5q hk
 exact⟨⟨K,K2,sy.rho,E,l,_,arg,len,env,blk,h1,s',l',good,mu,rfl,h2,outl⟩⟩
theorem b0r{M:Nat}{args:List Value}{l:List VV}{x:VV}(hk:b8A P fn.results.toList x (d0z P K K2 fn.ntmps S body l E)=true)(arg:VRs ⟨fun _=>none,sy.rho⟩ l args)(len:l.length≤fn.ntmps)(env: @EnvOK (a0g P K K2) E ⟨fun _=>none,sy.rho⟩ w)(blk: ∀r,E.blk r=none)
  (out: ∀φ:Phi,φ.ρ=sy.rho→ ∀u,VR φ x u→u=r):Nonempty (Run0 P fn S body p M args r w):=by
 obtain⟨a,H,h1,h2⟩:=c4K hk
 exact⟨⟨K,K2,sy.rho,E,l,_,arg,len,env,blk,h1,rfl,x,h2,out⟩⟩
end
section
variable{φ:Phi}{sy:Sy}
theorem a1R(hφ:φ.ρ=sy.rho){k:Nat}{u:Value}(h:okV (sy.vals.getD k (.bool false))=u): ∀v,VR φ (.sym k) v→v=u:=fun v hv=>by
 simp only[VR,hφ]at hv
 rw[hv]
 exact h
theorem a4G(hφ:φ.ρ=sy.rho){k:Nat}{n:Int}(h:sy.ints.getD k 0=n): ∀v,VR φ (si k) v→v=n64 n:=fun v hv=>by
 simp only[si,VR,hφ]at hv
 rw[hv]
 exact congrArg (Value.int .i64) h
theorem b6w{n:Int}: ∀v,VR φ (i8 n) v→v=n64 n:=fun v hv=>by
 simp only[i8,VR]at hv
 exact hv
theorem c0k{b:Bool}: ∀v,VR φ (.bool b) v→v= .bool b:=fun v hv=>by
 simp only[VR]at hv
 exact hv
theorem a2N{k:Nat}{u:Value}(h:okV (sy.vals.getD k (.bool false))=u):VR ⟨fun _=>none,sy.rho⟩ (.sym k) u:=by
 simp only[VR]
 exact h.symm
theorem a4r{k:Nat}{n:Int}(h:sy.ints.getD k 0=n):VR ⟨fun _=>none,sy.rho⟩ (si k) (n64 n):=by
 simp only[si,VR]
 exact congrArg (Value.int .i64) h.symm
theorem c1x{v:Value}(h:v.oneCell'=true):VR φ .one v:=by
 simp only[VR]
 exact h
end
def w64(n:Int):Int:=IntKind.i64.wrap n
theorem b0k{n:Int}(h: -9223372036854775808≤n∧n≤9223372036854775807):w64 n=n:=by
 unfold w64
 rw[IntKind.wrap_i64]
 omega
section
variable{ρ:Rho}{x y:VV}{k:IntKind}{a b:Int}{r:Bool}
theorem a3w(hx:a0k ρ x=some (.int k a))(hy:a0k ρ y=some (.int k b))(h:decide (a<b)=r):FactOK ρ (.bin .lss x y (.bool r)):=by
 refine⟨_,_,_,hx,hy,rfl,by simp,by simp,fun P t w=> ?_⟩
 simp[binOp,Op.intCmp,h]
theorem a8c(hx:a0k ρ x=some (.int k a))(hy:a0k ρ y=some (.int k b))(h:decide (a=b)=r):FactOK ρ (.bin .eql x y (.bool r)):=by
 refine⟨_,_,_,hx,hy,rfl,by simp,by simp,fun P t w=> ?_⟩
 subst h
 simp[binOp,Op.intCmp]
 rfl
theorem a8b(hx:a0k ρ x=some (.int k a))(hy:a0k ρ y=some (.int k b))(h:decide (a≠b)=r):FactOK ρ (.bin .neq x y (.bool r)):=by
 refine⟨_,_,_,hx,hy,rfl,by simp,by simp,fun P t w=> ?_⟩
 subst h
 simp[binOp,Op.intCmp]
 rfl
theorem a8d{j:Nat}(hx:a0k ρ x=some (.int .i64 a))(hy:a0k ρ y=some (.int .i64 b))(h:ρ.int j=w64 (a+b)):FactOK ρ (.bin .add x y (si j)):=by
 refine⟨_,_,_,hx,hy,rfl,by simp,by simp,fun P t w=> ?_⟩
 rw[h]
 simp[binOp,Op.intArith,w64]
theorem a3c{B O l c size j n:Nat}{i:VV}{o:Option Addr}(hx:a0k ρ x=some (.slice o l c))(ha:o=some ⟨B,O,none⟩)(hi:a0k ρ i=some (.int .i64 (n:Int)))(hn:n<l)(hb:ρ.blk j=B)(ho:ρ.off j=O+n*size):FactOK ρ (.at size x i ⟨.sym j,0⟩):=by
 subst ha
 exact⟨⟨B,O,none⟩,l,c,.i64,n,j,hx,rfl,hi,by omega,by omega,rfl,hb,by rw[ho];rfl⟩
theorem a1S{a:Option Addr}{n c j:Nat}{x:VV}(hx:a0k ρ x=some (.slice a n c))(hi:ρ.int j=(n:Int)):FactOK ρ (.len false x (si j)):=⟨_,_,hx,⟨_,_,rfl⟩,show some _=some _ by rw[hi]⟩
theorem fs_app{f1 f2:List Fact}(h1:b0j f1 ρ)(h2:b0j f2 ρ):b0j (f1++f2) ρ:=fun f hf=>(List.mem_append.1 hf).elim (h1 f) (h2 f)
end
def Cx.cells11(D:Cx):List Value:=[.string D.name,n64 D.kind,n64 D.c0,n64 D.c1,n64 D.c2,n64 D.c3,n64 D.color,n64 D.power,n64 D.tough,n64 D.keys,.slice D.oa D.abs.length D.cap]
structure PL where
 cs:List Cx
 pa:Option Addr
 pc:Nat
 pB:Nat
 pO:Nat
def PL.v(p:PL):Value:=.slice p.pa p.cs.length p.pc
structure PL.OK(p:PL)(w:World):Prop where
 n:p.cs.length≤42
 cd: ∀D∈p.cs,D.OK w
 sz: ∀D∈p.cs,D.name.size≤40∧D.abs.length≤5∧ ∀x∈D.abs,x.tg.length≤5∧x.code.length≤35
 cell: ∀i D,p.cs[i]? =some D→p.pa=some ⟨p.pB,p.pO,none⟩∧CellsAt w p.pB (p.pO+i*11) D.cells11
theorem Cx.OK.anc{D:Cx}{w w':World}(h:D.OK w)(an:Anc w w'):D.OK w':=h.later an.wk.size an.old
theorem PL.OK.anc{p:PL}{w w':World}(h:p.OK w)(an:Anc w w'):p.OK w':=
 ⟨h.n,fun D hD=>(h.cd D hD).anc an,h.sz,fun i D hD=>⟨(h.cell i D hD).1,(h.cell i D hD).2.later an⟩⟩
def a4j(cs:List Cx)(b:Int):Int:=match cs[b.toNat]? with
 |some D=>D.kind
 |none=>0
def c1d(cs:List Cx)(y:Ins):Bool:=decide (y.1=21)&&decide (a4j cs y.2.2≠2)
def c6Y(cs:List Cx)(x:Ab):Bool:=x.code.any (c1d cs)
def c9y(cs:List Cx)(D:Cx):Bool:=D.abs.any (c6Y cs)
def d4k(n:Nat)(x:Ab):Prop:= ∀y∈x.code,y.1=21→0≤y.2.2∧y.2.2<n
end
end Go.Proofs.Ytmmmknhdigapkaa.plq
namespace Go.Proofs.Ytmmmknhdigapkaa.plq
open Go.Ev Go.RowKit
set_option linter.unusedVariables false
noncomputable section
def c4r:Code:=match Try.f24.body with|some c=>c|none=>.skip
theorem d1q:Try.f24.body=some c4r:=rfl
def d6h:VV:=.agg [.sym 3,si 9,.one,.one,.one,.one,.one,.one,.one,.one,.sym 1]
def ones(n:Nat):List VV:=List.replicate n .one
def e2T:List VV:=[.one,.one,.one,.one,.one,.one,.one,.one,.one,.sym 2,.one,.one,.one]
def d7d(k:VV):List (Nat×VV):=[(0,.sym 0),(10,.sym 1),(11,si 2),(12,k)]
def c7v(j:VV):List (Nat×VV):=[(0,.sym 0),(10,.sym 1),(11,si 2),(12,si 0),(17,.sym 2),(18,si 5),(19,j)]
def e3y:Env:=b4F [] [.len false (.sym 1) (si 2)] []
def e3x(b:Bool):Env:=b4F [] [.bin .lss (si 0) (si 2) (.bool b),.at 13 (.sym 1) (si 0) ⟨.sym 0,0⟩,.len false (.sym 2) (si 5)] [(0,e2T)]
def e3v:Env:=b4F [] [.bin .lss (si 0) (si 2) (.bool false)] []
def e3w:Env:=b4F [] [.bin .lss (si 3) (si 5) (.bool false),.bin .add (si 0) (i8 1) (si 1)] []
def e2S(b:Bool):Env:=b4F [] [.bin .lss (si 3) (si 5) (.bool true),.at 3 (.sym 2) (si 3) ⟨.sym 1,0⟩,.bin .eql (si 6) (i8 21) (.bool b),.bin .add (si 3) (i8 1) (si 4)] [(1,[si 6,.one,si 7])]
def d3J(b:Bool):Env:=b4F [] [.bin .lss (si 3) (si 5) (.bool true),.at 3 (.sym 2) (si 3) ⟨.sym 1,0⟩,.bin .eql (si 6) (i8 21) (.bool true),.bin .add (si 3) (i8 1) (si 4),.at 11 (.sym 0) (si 7) ⟨.sym 2,0⟩,.bin .neq (si 8) (i8 2) (.bool b)] [(1,[si 6,.one,si 7]),(2,[.one,si 8,.one,.one,.one,.one,.one,.one,.one,.one,.one])]
abbrev c2Z(t:Nat)(l:List (Nat×VV))(E:Env):Option SegO:=b8d Try.prog [] [] Try.f24.ntmps [0,1] c4r t l E
def mk0:Bool:=b4H 0 (d7d (i8 0)) (d0z Try.prog [] [] Try.f24.ntmps [0,1] c4r [.sym 0,d6h] e3y)
def mk1:Bool:=b4H 1 (c7v (i8 0)) (c2Z 0 (d7d (si 0)) (e3x true))
def mk2:Bool:=b8A Try.prog Try.f24.results.toList (.bool false) (c2Z 0 (d7d (si 0)) e3v)
def mk3:Bool:=b4H 0 (d7d (si 1)) (c2Z 1 (c7v (si 3)) e3w)
def mk4:Bool:=b4H 1 (c7v (si 4)) (c2Z 1 (c7v (si 3)) (e2S false))
def mk5:Bool:=b4H 1 (c7v (si 4)) (c2Z 1 (c7v (si 3)) (d3J false))
def mk6:Bool:=b8A Try.prog Try.f24.results.toList (.bool true) (c2Z 1 (c7v (si 3)) (d3J true))
theorem e3u:([mk0,mk1,mk2,mk3,mk4,mk5,mk6].all id)=true:=by kernel_rfl
def c3n:Code:=match Try.f26.body with|some c=>c|none=>.skip
theorem d0s:Try.f26.body=some c3n:=rfl
def tkT(j:VV):List (Nat×VV):=[(0,.sym 0),(1,.sym 2),(5,j)]
def e3U:Env:=b4F [] [] []
def tkL:Fact:=.len false (.sym 2) (si 5)
def d3c(E:Env):Env:={E with tab:=tkL::E.tab}
abbrev c7K(E:Env):Option SegO:=b8d Try.prog [] [] Try.f26.ntmps [0] c3n 0 (tkT (si 3)) (d3c E)
def tk0:Bool:=b4H 0 (tkT (i8 0)) (d0z Try.prog [] [] Try.f26.ntmps [0] c3n [.sym 0,.sym 2] e3U)
def tk1:Bool:=b8A Try.prog Try.f26.results.toList (.bool true) (c7K (b4F [] [.bin .lss (si 3) (si 5) (.bool false)] []))
def tk2:Bool:=b4H 0 (tkT (si 4)) (c7K (e2S false))
def tk3:Bool:=b4H 0 (tkT (si 4)) (c7K (d3J false))
def tk4:Bool:=b8A Try.prog Try.f26.results.toList (.bool false) (c7K (d3J true))
theorem e3T:([tk0,tk1,tk2,tk3,tk4].all id)=true:=by kernel_rfl
end
end Go.Proofs.Ytmmmknhdigapkaa.plq
namespace Go.Proofs.Ytmmmknhdigapkaa.plq
open Go.Ev Go.RowKit
set_option linter.unusedVariables false
noncomputable section
theorem b8z{b:Bool}(h:b∈ [mk0,mk1,mk2,mk3,mk4,mk5,mk6]):b=true:=by
 have:=e3u
 rw[List.all_eq_true]at this
 exact this b h
theorem c3o{b:Bool}(h:b∈ [tk0,tk1,tk2,tk3,tk4]):b=true:=by
 have:=e3T
 rw[List.all_eq_true]at this
 exact this b h
theorem e3t:Try.f24.ntmps≤top:=Nat.le_of_ble_eq_true (by kernel_rfl)
theorem e3s:Try.f26.ntmps≤top:=Nat.le_of_ble_eq_true (by kernel_rfl)
theorem hng:a4B Try.prog:=b4z b8w
theorem noK{ρ:Rho}{w:World}: @Ext.ok (a0g Try.prog [] []) ρ w:=⟨(fun e he=>by cases he),(fun e he=>by cases he)⟩
theorem nI{n:Nat}(h:n≤1000000):I64 (n:Int):=⟨by omega,by omega⟩
inductive MkS
 |out (k:Nat)
 |inn (k j:Nat)
def Ab.cd(x:Ab)(j:Nat):Ins:=x.code.getD j (0,0,0)
def d3I(p:PL)(D:Cx):Pl MkS where
 lab
  |.out _=>0
  |.inn _ _=>1
 mu
  |.out k=>(D.abs.length-k)*100+50
  |.inn k j=>(D.abs.length-k)*100+40-j
 tl
  |.out k=>[(0,p.v),(10,.slice D.oa D.abs.length D.cap),(11,n64 D.abs.length),(12,n64 k)]
  |.inn k j=>[(0,p.v),(10,.slice D.oa D.abs.length D.cap),(11,n64 D.abs.length),(12,n64 k),(17,.slice (D.ca k) (D.ab k).code.length (D.cc k)),(18,n64 (D.ab k).code.length),(19,n64 j)]
 good
  |.out k=>k≤D.abs.length∧ ∀i,i<k→c6Y p.cs (D.ab i)=false
  |.inn k j=>k<D.abs.length∧j≤(D.ab k).code.length∧(∀i,i<k→c6Y p.cs (D.ab i)=false)∧ ∀i,i<j→c1d p.cs ((D.ab k).cd i)=false
def a6Z(p:PL)(D:Cx)(k j:Nat):Sy where
 ints:=[(k:Int),((k+1:Nat):Int),(D.abs.length:Int),(j:Int),((j+1:Nat):Int),((D.ab k).code.length:Int),((D.ab k).cd j).1,((D.ab k).cd j).2.2,a4j p.cs ((D.ab k).cd j).2.2]
 vals:=[p.v,.slice D.oa D.abs.length D.cap,.slice (D.ca k) (D.ab k).code.length (D.cc k)]
 bl:=[(D.B,D.O+k*13),(D.cB k,D.cO k+j*3),(p.pB,p.pO+((D.ab k).cd j).2.2.toNat*11)]
theorem b2o{α:Type}{q:α→Bool}{l:List α}{d:α}(h: ∀i,i<l.length→q (l.getD i d)=false):l.any q=false:=by
 rw[Bool.eq_false_iff]
 intro ha
 rw[List.any_eq_true]at ha
 obtain⟨x,hx,hq⟩:=ha
 obtain⟨i,hi,rfl⟩:=List.getElem_of_mem hx
 have:=h i hi
 rw[List.getD_eq_getElem?_getD,List.getElem?_eq_getElem hi]at this
 simp only[Option.getD_some]at this
 rw[this]at hq
 cases hq
theorem b1A{α:Type}{q:α→Bool}{l:List α}{d:α}{i:Nat}(hi:i<l.length)(h:q (l.getD i d)=true):l.any q=true:=by
 rw[List.any_eq_true]
 rw[List.getD_eq_getElem?_getD,List.getElem?_eq_getElem hi]at h
 exact⟨_,List.getElem_mem hi,h⟩
section
variable{p:PL}{D:Cx}{w:World}{k:Nat}
theorem Cx.OK.abLen(h:p.OK w)(hD:D∈p.cs)(k:Nat):D.abs.length≤5∧(D.ab k).code.length≤35∧(D.ab k).tg.length≤5:=by
 obtain⟨_,h2,h3⟩:=h.sz D hD
 refine⟨h2, ?_⟩
 by_cases hk:k<D.abs.length
 ·have:=h3 (D.ab k) (by unfold Cx.ab;rw[List.getD_eq_getElem?_getD,List.getElem?_eq_getElem hk];exact List.getElem_mem hk)
  exact⟨this.2,this.1⟩
 ·unfold Cx.ab
  rw[List.getD_eq_getElem?_getD,List.getElem?_eq_none (by omega)]
  exact⟨Nat.zero_le _,Nat.zero_le _⟩
theorem d0A(hk:k<D.abs.length):D.ab k∈D.abs:=by
 unfold Cx.ab
 rw[List.getD_eq_getElem?_getD,List.getElem?_eq_getElem hk]
 exact List.getElem_mem hk
theorem d6T(h:D.OK w)(hk:k<D.abs.length)(j:Nat):I64 ((D.ab k).cd j).1∧I64 ((D.ab k).cd j).2.1∧I64 ((D.ab k).cd j).2.2:=(h.codes k hk).fit j
theorem c8E(h:p.OK w)(b:Int):I64 (a4j p.cs b):=by
 unfold a4j
 split
 ·rename_i D hD
  exact(h.cd D (List.mem_of_getElem? hD)).ints _ (by simp)
 ·exact a2T
theorem c7u(h:p.OK w)(hD:D∈p.cs){k j:Nat}(hk:k<D.abs.length)(hj:j≤40):IvL [] (a6Z p D k j).ints:=by
 obtain⟨a1,a2,_⟩:=Cx.OK.abLen h hD k
 have f:=d6T (h.cd D hD) hk j
 exact⟨nI (by omega),nI (by omega),nI (by omega),nI (by omega),nI (by omega),nI (by omega),f.1,f.2.2,c8E h _,trivial⟩
theorem c8j(h:p.OK w)(hD:D∈p.cs){k j:Nat}(hk:k<D.abs.length): ∃vs,CellsAt w D.B (D.O+k*13) vs∧VRs ⟨fun _=>none,(a6Z p D k j).rho⟩ e2T vs:=by
 obtain⟨g1,g2,g3⟩:=(h.cd D hD).cells k hk
 refine⟨D.cells k,⟨g2,g3⟩, ?_⟩
 have o: ∀v:Value,v.oneCell'=true→VR ⟨fun _=>none,(a6Z p D k j).rho⟩ .one v:=fun v hv=>c1x hv
 exact a0D (o _ rfl) (a0D (o _ rfl) (a0D (o _ rfl) (a0D (o _ rfl) (a0D (o _ rfl) (a0D (o _ rfl) (a0D (o _ rfl) (a0D (o _ rfl) (a0D (o _ rfl) (a0D (a2N rfl) (a0D (o _ rfl) (a0D (o _ rfl) (a0D (o _ rfl) a4f))))))))))))
theorem b0z{x:Ab}{a:Option Addr}{B O:Nat}{sy:Sy}(h:Lst w a B O x.code){j:Nat}(hj:j<x.code.length)(h6:sy.ints.getD 6 0=(x.cd j).1)(h7:sy.ints.getD 7 0=(x.cd j).2.2): ∃vs,CellsAt w B (O+j*3) vs∧VRs ⟨fun _=>none,sy.rho⟩ [si 6,.one,si 7] vs:=by
 obtain⟨g1,g2,g3,g4,g5⟩:=h.cells j _ (b7r (d:=(0,0,0)) hj)
 refine⟨[n64 (x.cd j).1,n64 (x.cd j).2.1,n64 (x.cd j).2.2],⟨g2,fun q v hq=> ?_⟩,a0D (a4r h6) (a0D (c1x rfl) (a0D (a4r h7) a4f))⟩
 match q with
 |0=>cases hq;exact g3
 |1=>cases hq;exact g4
 |2=>cases hq;exact g5
 |q+3=>simp at hq
theorem c0O{sy:Sy}(h:p.OK w){b:Int}(hb:0≤b∧b<p.cs.length)(h8:sy.ints.getD 8 0=a4j p.cs b):p.pa=some ⟨p.pB,p.pO,none⟩∧ ∃vs,CellsAt w p.pB (p.pO+b.toNat*11) vs∧VRs ⟨fun _=>none,sy.rho⟩ [.one,si 8,.one,.one,.one,.one,.one,.one,.one,.one,.one] vs:=by
 have hlt:b.toNat<p.cs.length:=by omega
 obtain⟨g1,g2⟩:=h.cell b.toNat _ (List.getElem?_eq_getElem hlt)
 have hk:a4j p.cs b=(p.cs[b.toNat]).kind:=by
  unfold a4j
  rw[List.getElem?_eq_getElem hlt]
 refine⟨g1,_,g2, ?_⟩
 have o: ∀v:Value,v.oneCell'=true→VR ⟨fun _=>none,sy.rho⟩ .one v:=fun v hv=>c1x hv
 exact a0D (o _ rfl) (a0D (a4r (h8.trans hk)) (a0D (o _ rfl) (a0D (o _ rfl) (a0D (o _ rfl) (a0D (o _ rfl) (a0D (o _ rfl) (a0D (o _ rfl) (a0D (o _ rfl) (a0D (o _ rfl) (a0D (o _ rfl) a4f))))))))))
theorem b4M{x:Ab}(h: ∀i,i<x.code.length→c1d p.cs (x.cd i)=false):c6Y p.cs x=false:=b2o h
theorem e2W(h:p.OK w)(hD:D∈p.cs){k j:Nat}(hj:j≤(D.ab k).code.length):j≤35:=by
 obtain⟨_,a2,_⟩:=Cx.OK.abLen h hD k
 omega
theorem b9B(h:p.OK w)(hD:D∈p.cs)(ht: ∀x∈D.abs,d4k p.cs.length x):Calls Try.prog 24 ⟨[p.v,D.val]⟩ w fun e w'=>e= .returned (.bool (c9y p.cs D))∧Below w.heap.size w w':=by
 obtain⟨a1,_⟩:=Cx.OK.abLen h hD 0
 refine a5A hng mixed Try.func24 d1q e3t (S:=[0,1]) (d3I p D) ((D.abs.length+1)*100) ?_ ?_
 ·refine b4l (sy:=⟨[0,0,(D.abs.length:Int),0,0,0,0,0,0,D.kind],[p.v,.slice D.oa D.abs.length D.cap,.bool false,.string D.name],[]⟩) (.out 0) (b8z (b:=mk0) (by simp)) ?_ (by show 2≤_;exact Nat.le_of_ble_eq_true (by kernel_rfl)) (a0h noK rfl ?_ (a0F (a1S rfl rfl) a0b) (fun q hq=>by cases hq)) (fun r=>rfl) ⟨Nat.zero_le _,fun i hi=>by omega⟩ (by show(D.abs.length-0)*100+50<_;omega) fun φ hφ=>⟨⟨rfl,a1R hφ rfl⟩,⟨rfl,a1R hφ rfl⟩,⟨rfl,a4G hφ rfl⟩,⟨rfl,b6w⟩,trivial⟩
  ·refine a0D (a2N rfl) (a0D ?_ a4f)
   have o: ∀{φ:Phi} (v:Value),v.oneCell'=true→VR φ .one v:=fun v hv=>c1x hv
   unfold d6h Cx.val
   rw[VR]
   exact⟨_,a0D (a2N rfl) (a0D (a4r rfl) (a0D (o _ rfl) (a0D (o _ rfl) (a0D (o _ rfl) (a0D (o _ rfl) (a0D (o _ rfl) (a0D (o _ rfl) (a0D (o _ rfl) (a0D (o _ rfl) (a0D (a2N rfl) a4f)))))))))),rfl⟩
  ·exact⟨a2T,a2T,nI (by omega),a2T,a2T,a2T,a2T,a2T,a2T,(h.cd D hD).ints _ (by simp),trivial⟩
 ·intro s hs w' an
  have h:=h.anc an
  cases s with
  |out k=>
   obtain⟨hk,hb⟩:=hs
   by_cases hlt:k<D.abs.length
   ·obtain⟨g1,_,_⟩:=(h.cd D hD).cells k hlt
    refine a2s (sy:=a6Z p D k 0) (.inn k 0) (b8z (b:=mk1) (by simp)) ⟨⟨rfl,by show 0<top;decide,a2N rfl⟩,⟨rfl,by show 10<top;decide,a2N rfl⟩,⟨rfl,by show 11<top;decide,a4r rfl⟩,⟨rfl,by show 12<top;decide,a4r rfl⟩,trivial⟩ (a0h noK rfl (c7u h hD hlt (by omega)) ?_ ?_) (fun r=>rfl) ⟨hlt,Nat.zero_le _,hb,fun i hi=>by omega⟩ (by show(D.abs.length-k)*100+40-0<(D.abs.length-k)*100+50;omega)
     fun φ hφ=>⟨⟨rfl,a1R hφ rfl⟩,⟨rfl,a1R hφ rfl⟩,⟨rfl,a4G hφ rfl⟩,⟨rfl,a4G hφ rfl⟩,⟨rfl,a1R hφ rfl⟩,⟨rfl,a4G hφ rfl⟩,⟨rfl,b6w⟩,trivial⟩
    ·exact a0F (a3w (k:=.i64) (a:=(k:Int)) (b:=(D.abs.length:Int)) rfl rfl (decide_eq_true (by omega))) (a0F (a3c (n:=k) rfl g1 rfl hlt rfl rfl) (a0F (a1S rfl rfl) a0b))
    ·intro q hq
     simp only[List.mem_singleton]at hq
     subst hq
     exact c8j h hD hlt
   ·obtain rfl:k=D.abs.length:=by omega
    refine run_ret (sy:=⟨[(D.abs.length:Int),0,(D.abs.length:Int)],[p.v,.slice D.oa D.abs.length D.cap],[]⟩) (b8z (b:=mk2) (by simp)) ⟨⟨rfl,by show 0<top;decide,a2N rfl⟩,⟨rfl,by show 10<top;decide,a2N rfl⟩,⟨rfl,by show 11<top;decide,a4r rfl⟩,⟨rfl,by show 12<top;decide,a4r rfl⟩,trivial⟩
     (a0h noK rfl ⟨nI (by omega),a2T,nI (by omega),trivial⟩ (a0F (a3w (k:=.i64) (a:=(D.abs.length:Int)) (b:=(D.abs.length:Int)) rfl rfl (decide_eq_false (by omega))) a0b) (fun q hq=>by cases hq)) (fun r=>rfl) fun φ hφ u hu=> ?_
    have e:c9y p.cs D=false:=b2o (d:=Ab.zero) hb
    rw[e]
    exact c0k u hu
  |inn k j=>
   obtain⟨hk,hj,hb,hc⟩:=hs
   have h35:=e2W h hD hj
   have L:=(h.cd D hD).codes k hk
   have inl:InL ⟨fun _=>none,(a6Z p D k j).rho⟩ (c7v (si 3)) ((d3I p D).tl (.inn k j)):=⟨⟨rfl,by show 0<top;decide,a2N rfl⟩,⟨rfl,by show 10<top;decide,a2N rfl⟩,⟨rfl,by show 11<top;decide,a4r rfl⟩,⟨rfl,by show 12<top;decide,a4r rfl⟩,⟨rfl,by show 17<top;decide,a2N rfl⟩,⟨rfl,by show 18<top;decide,a4r rfl⟩,⟨rfl,by show 19<top;decide,a4r rfl⟩,trivial⟩
   have iv:=c7u (j:=j) h hD hk (by omega)
   by_cases hlt:j<(D.ab k).code.length
   ·obtain⟨g1,_⟩:=L.cells j _ (b7r (d:=(0,0,0)) hlt)
    have fl:FactOK (a6Z p D k j).rho (.bin .lss (si 3) (si 5) (.bool true)):=a3w (k:=.i64) (a:=(j:Int)) (b:=((D.ab k).code.length:Int)) rfl rfl (decide_eq_true (by omega))
    have fa:FactOK (a6Z p D k j).rho (.at 3 (.sym 2) (si 3) ⟨.sym 1,0⟩):=a3c (n:=j) rfl g1 rfl hlt rfl rfl
    have fd:FactOK (a6Z p D k j).rho (.bin .add (si 3) (i8 1) (si 4)):=a8d (a:=(j:Int)) (b:=1) rfl rfl (by
     show((j+1:Nat):Int)=w64 ((j:Int)+1)
     rw[b0k (by omega)]
     omega)
    have nx: ∀{b:Bool},c1d p.cs ((D.ab k).cd j)=b→b=false→(d3I p D).good (.inn k (j+1)):=fun hb1 hb2=>⟨hk,hlt,hb,fun i hi=>by
     by_cases e:i=j
     ·rw[e,hb1,hb2]
     ·exact hc i (by omega)⟩
    have ol: ∀φ:Phi,φ.ρ=(a6Z p D k j).rho→OutL φ (c7v (si 4)) ((d3I p D).tl (.inn k (j+1))):=fun φ hφ=>⟨⟨rfl,a1R hφ rfl⟩,⟨rfl,a1R hφ rfl⟩,⟨rfl,a4G hφ rfl⟩,⟨rfl,a4G hφ rfl⟩,⟨rfl,a1R hφ rfl⟩,⟨rfl,a4G hφ rfl⟩,⟨rfl,a4G hφ rfl⟩,trivial⟩
    have mu:(d3I p D).mu (.inn k (j+1))<(d3I p D).mu (.inn k j):=by
     show(D.abs.length-k)*100+40-(j+1)<(D.abs.length-k)*100+40-j
     omega
    by_cases h21:((D.ab k).cd j).1=21
    ·have hin:=ht _ (d0A hk) ((D.ab k).cd j) (by unfold Ab.cd;rw[List.getD_eq_getElem?_getD,List.getElem?_eq_getElem hlt];exact List.getElem_mem hlt) h21
     obtain⟨t1,t2⟩:=c0O (sy:=a6Z p D k j) h hin rfl
     have fe:FactOK (a6Z p D k j).rho (.bin .eql (si 6) (i8 21) (.bool true)):=a8c (k:=.i64) (a:=((D.ab k).cd j).1) (b:=21) rfl rfl (decide_eq_true h21)
     have ft:FactOK (a6Z p D k j).rho (.at 11 (.sym 0) (si 7) ⟨.sym 2,0⟩):=a3c (n:=((D.ab k).cd j).2.2.toNat) rfl t1 (by
      show some (Value.int .i64 ((D.ab k).cd j).2.2)=_
      congr 2
      omega) (by show((D.ab k).cd j).2.2.toNat<p.cs.length;omega) rfl rfl
     have env: ∀{b:Bool},decide (a4j p.cs ((D.ab k).cd j).2.2≠2)=b→ @EnvOK (a0g Try.prog [] []) (d3J b) ⟨fun _=>none,(a6Z p D k j).rho⟩ w':=fun{b} hb=>a0h noK rfl iv (a0F fl (a0F fa (a0F fe (a0F fd (a0F ft (a0F (a8b (k:=.i64) (a:=a4j p.cs ((D.ab k).cd j).2.2) (b:=2) rfl rfl hb) a0b)))))) (by
      intro q hq
      simp only[List.mem_cons,List.not_mem_nil,or_false]at hq
      rcases hq with rfl|rfl
      ·exact b0z L hlt rfl rfl
      ·exact t2)
     cases hd:decide (a4j p.cs ((D.ab k).cd j).2.2≠2)with
     |false=>
      refine a2s (sy:=a6Z p D k j) (.inn k (j+1)) (b8z (b:=mk5) (by simp)) inl (env hd) (fun r=>rfl) (nx ?_ rfl) mu ol
      unfold c1d
      rw[hd,Bool.and_false]
     |true=>
      refine run_ret (sy:=a6Z p D k j) (b8z (b:=mk6) (by simp)) inl (env hd) (fun r=>rfl) fun φ hφ u hu=> ?_
      have e:c9y p.cs D=true:=b1A (d:=Ab.zero) hk (b1A (d:=(0,0,0)) (i:=j) hlt (by
       show c1d p.cs ((D.ab k).cd j)=true
       unfold c1d
       rw[hd,decide_eq_true h21]
       rfl))
      rw[e]
      exact c0k u hu
    ·have fe:FactOK (a6Z p D k j).rho (.bin .eql (si 6) (i8 21) (.bool false)):=a8c (k:=.i64) (a:=((D.ab k).cd j).1) (b:=21) rfl rfl (decide_eq_false h21)
     refine a2s (sy:=a6Z p D k j) (.inn k (j+1)) (b8z (b:=mk4) (by simp)) inl (a0h noK rfl iv (a0F fl (a0F fa (a0F fe (a0F fd a0b)))) ?_) (fun r=>rfl) (nx ?_ rfl) mu ol
     ·intro q hq
      simp only[List.mem_singleton]at hq
      subst hq
      exact b0z L hlt rfl rfl
     ·unfold c1d
      rw[decide_eq_false h21,Bool.false_and]
   ·obtain rfl:j=(D.ab k).code.length:=by omega
    refine a2s (sy:=a6Z p D k (D.ab k).code.length) (.out (k+1)) (b8z (b:=mk3) (by simp)) inl (a0h noK rfl iv (a0F (a3w (k:=.i64) (a:=((D.ab k).code.length:Int)) (b:=((D.ab k).code.length:Int)) rfl rfl (decide_eq_false (by omega))) (a0F (a8d (a:=(k:Int)) (b:=1) rfl rfl (by
     show((k+1:Nat):Int)=w64 ((k:Int)+1)
     rw[b0k (by omega)]
     omega)) a0b)) (fun q hq=>by cases hq)) (fun r=>rfl) ⟨hk,fun i hi=> ?_⟩ (by show(D.abs.length-(k+1))*100+50<(D.abs.length-k)*100+40-(D.ab k).code.length;omega) fun φ hφ=>⟨⟨rfl,a1R hφ rfl⟩,⟨rfl,a1R hφ rfl⟩,⟨rfl,a4G hφ rfl⟩,⟨rfl,a4G hφ rfl⟩,trivial⟩
    by_cases e:i=k
    ·rw[e]
     exact b4M hc
    ·exact hb i (by omega)
end
end
end Go.Proofs.Ytmmmknhdigapkaa.plq
namespace Go.Proofs.Ytmmmknhdigapkaa.plq
open Go.Ev Go.RowKit
set_option linter.unusedVariables false
noncomputable section
section
variable{p:PL}{D:Cx}{w:World}{k:Nat}
def d3A(p:PL)(D:Cx)(k:Nat):Pl Nat where
 lab _:=0
 mu j:=40-j
 tl j:=[(0,p.v),(1,.slice (D.ca k) (D.ab k).code.length (D.cc k)),(5,n64 j)]
 good j:=j≤(D.ab k).code.length∧ ∀i,i<j→c1d p.cs ((D.ab k).cd i)=false
theorem b6Y(h:p.OK w)(hD:D∈p.cs)(hk:k<D.abs.length)(ht:d4k p.cs.length (D.ab k)):Calls Try.prog 26 ⟨[p.v,.slice (D.ca k) (D.ab k).code.length (D.cc k)]⟩ w fun e w'=>e= .returned (.bool (!c6Y p.cs (D.ab k)))∧Below w.heap.size w w':=by
 refine a5A hng mixed Try.func26 d0s e3s (S:=[0]) (d3A p D k) 100 ?_ ?_
 ·refine b4l (sy:=a6Z p D k 0) 0 (c3o (b:=tk0) (by simp)) (a0D (a2N rfl) (a0D (a2N rfl) a4f)) (by show 2≤_;exact Nat.le_of_ble_eq_true (by kernel_rfl)) (a0h noK rfl (c7u h hD hk (by omega)) a0b (fun q hq=>by cases hq)) (fun r=>rfl) ⟨Nat.zero_le _,fun i hi=>by omega⟩ (by show 40-0<100;omega) fun φ hφ=>⟨⟨rfl,a1R hφ rfl⟩,⟨rfl,a1R hφ rfl⟩,⟨rfl,b6w⟩,trivial⟩
 ·intro j hs w' an
  have h:=h.anc an
  obtain⟨hj,hc⟩:=hs
  have h35:=e2W h hD hj
  have L:=(h.cd D hD).codes k hk
  have inl:InL ⟨fun _=>none,(a6Z p D k j).rho⟩ (tkT (si 3)) ((d3A p D k).tl j):=⟨⟨rfl,by show 0<top;decide,a2N rfl⟩,⟨rfl,by show 1<top;decide,a2N rfl⟩,⟨rfl,by show 5<top;decide,a4r rfl⟩,trivial⟩
  have iv:=c7u (j:=j) h hD hk (by omega)
  have fL:FactOK (a6Z p D k j).rho tkL:=a1S rfl rfl
  by_cases hlt:j<(D.ab k).code.length
  ·obtain⟨g1,_⟩:=L.cells j _ (b7r (d:=(0,0,0)) hlt)
   have fl:FactOK (a6Z p D k j).rho (.bin .lss (si 3) (si 5) (.bool true)):=a3w (k:=.i64) (a:=(j:Int)) (b:=((D.ab k).code.length:Int)) rfl rfl (decide_eq_true (by omega))
   have fa:FactOK (a6Z p D k j).rho (.at 3 (.sym 2) (si 3) ⟨.sym 1,0⟩):=a3c (n:=j) rfl g1 rfl hlt rfl rfl
   have fd:FactOK (a6Z p D k j).rho (.bin .add (si 3) (i8 1) (si 4)):=a8d (a:=(j:Int)) (b:=1) rfl rfl (by
    show((j+1:Nat):Int)=w64 ((j:Int)+1)
    rw[b0k (by omega)]
    omega)
   have nx: ∀{b:Bool},c1d p.cs ((D.ab k).cd j)=b→b=false→(d3A p D k).good (j+1):=fun hb1 hb2=>⟨hlt,fun i hi=>by
    by_cases e:i=j
    ·rw[e,hb1,hb2]
    ·exact hc i (by omega)⟩
   have ol: ∀φ:Phi,φ.ρ=(a6Z p D k j).rho→OutL φ (tkT (si 4)) ((d3A p D k).tl (j+1)):=fun φ hφ=>⟨⟨rfl,a1R hφ rfl⟩,⟨rfl,a1R hφ rfl⟩,⟨rfl,a4G hφ rfl⟩,trivial⟩
   have mu:(d3A p D k).mu (j+1)<(d3A p D k).mu j:=by
    show 40-(j+1)<40-j
    omega
   by_cases h21:((D.ab k).cd j).1=21
   ·have hin:=ht ((D.ab k).cd j) (by unfold Ab.cd;rw[List.getD_eq_getElem?_getD,List.getElem?_eq_getElem hlt];exact List.getElem_mem hlt) h21
    obtain⟨t1,t2⟩:=c0O (sy:=a6Z p D k j) h hin rfl
    have fe:FactOK (a6Z p D k j).rho (.bin .eql (si 6) (i8 21) (.bool true)):=a8c (k:=.i64) (a:=((D.ab k).cd j).1) (b:=21) rfl rfl (decide_eq_true h21)
    have ft:FactOK (a6Z p D k j).rho (.at 11 (.sym 0) (si 7) ⟨.sym 2,0⟩):=a3c (n:=((D.ab k).cd j).2.2.toNat) rfl t1 (by
     show some (Value.int .i64 ((D.ab k).cd j).2.2)=_
     congr 2
     omega) (by show((D.ab k).cd j).2.2.toNat<p.cs.length;omega) rfl rfl
    have env: ∀{b:Bool},decide (a4j p.cs ((D.ab k).cd j).2.2≠2)=b→ @EnvOK (a0g Try.prog [] []) (d3c (d3J b)) ⟨fun _=>none,(a6Z p D k j).rho⟩ w':=fun{b} hb=>a0h noK rfl iv (a0F fL (a0F fl (a0F fa (a0F fe (a0F fd (a0F ft (a0F (a8b (k:=.i64) (a:=a4j p.cs ((D.ab k).cd j).2.2) (b:=2) rfl rfl hb) a0b))))))) (by
     intro q hq
     simp only[List.mem_cons,List.not_mem_nil,or_false]at hq
     rcases hq with rfl|rfl
     ·exact b0z L hlt rfl rfl
     ·exact t2)
    cases hd:decide (a4j p.cs ((D.ab k).cd j).2.2≠2)with
    |false=>
     refine a2s (sy:=a6Z p D k j) (j+1) (c3o (b:=tk3) (by simp)) inl (env hd) (fun r=>rfl) (nx ?_ rfl) mu ol
     unfold c1d
     rw[hd,Bool.and_false]
    |true=>
     refine run_ret (sy:=a6Z p D k j) (c3o (b:=tk4) (by simp)) inl (env hd) (fun r=>rfl) fun φ hφ u hu=> ?_
     have e:c6Y p.cs (D.ab k)=true:=b1A (d:=(0,0,0)) (i:=j) hlt (by
      show c1d p.cs ((D.ab k).cd j)=true
      unfold c1d
      rw[hd,decide_eq_true h21]
      rfl)
     rw[e]
     exact c0k u hu
   ·have fe:FactOK (a6Z p D k j).rho (.bin .eql (si 6) (i8 21) (.bool false)):=a8c (k:=.i64) (a:=((D.ab k).cd j).1) (b:=21) rfl rfl (decide_eq_false h21)
    refine a2s (sy:=a6Z p D k j) (j+1) (c3o (b:=tk2) (by simp)) inl (a0h (iv:=[]) (sb:=[(1,[si 6,.one,si 7])]) noK rfl iv (a0F fL (a0F fl (a0F fa (a0F fe (a0F fd a0b))))) ?_) (fun r=>rfl) (nx ?_ rfl) mu ol
    ·intro q hq
     simp only[List.mem_singleton]at hq
     subst hq
     exact b0z L hlt rfl rfl
    ·unfold c1d
     rw[decide_eq_false h21,Bool.false_and]
  ·obtain rfl:j=(D.ab k).code.length:=by omega
   refine run_ret (sy:=a6Z p D k (D.ab k).code.length) (c3o (b:=tk1) (by simp)) inl (a0h (iv:=[]) (sb:=[]) noK rfl iv (a0F fL (a0F (a3w (k:=.i64) (a:=((D.ab k).code.length:Int)) (b:=((D.ab k).code.length:Int)) rfl rfl (decide_eq_false (by omega))) a0b)) (fun q hq=>by cases hq)) (fun r=>rfl) fun φ hφ u hu=> ?_
   rw[b4M hc]
   exact c0k u hu
end
def c4I:Code:=match Try.f11.body with|some c=>c|none=>.skip
theorem b8i:Try.f11.body=some c4I:=rfl
theorem e0Y:Try.f11.ntmps≤top:=Nat.le_of_ble_eq_true (by kernel_rfl)
def cdV:List VV:=[.sym 1,si 10,si 11,si 12,si 13,si 14,si 15,si 16,si 17,si 18,.sym 2]
def e2P:List VV:=[.one,.one,.one,.one,.one,.one,.one,.one,.one,.sym 3,.one,.one,.one]
def rkL:Fact:=.len false (.sym 0) (si 0)
def d5J(i:VV):List (Nat×VV):=[(0,.sym 0),(3,i)]
def d5I(k:VV):List (Nat×VV):=[(0,.sym 0),(3,si 1),(4,k)]
def d5H(i:VV):List (Nat×VV):=[(0,.sym 0),(5,i)]
def d5G(k:VV):List (Nat×VV):=[(0,.sym 0),(5,si 1),(6,k)]
abbrev b6k(K:List KE)(t:Nat)(l:List (Nat×VV))(iv:Ivs)(fs:List Fact)(sb:List (Nat×List VV)):Option SegO:=b8d Try.prog K [] Try.f11.ntmps [0,1,2,3] c4I t l (b4F iv (rkL::fs) sb)
abbrev d1E(iv:Ivs):Option SegO:=d0z Try.prog [] [] Try.f11.ntmps [0,1,2,3] c4I [.sym 0] (b4F iv [rkL] [])
def c2O:List ResultVar:=Try.f11.results.toList
def rkK:List KE:=[⟨25,[.agg cdV,si 0],[],si 6⟩]
def d9r(b:Bool):List KE:=[⟨26,[.sym 0,.sym 3],[],.bool b⟩]
def rkA:Fact:=.at 11 (.sym 0) (si 1) ⟨.sym 0,0⟩
def rk0:Bool:=b8A Try.prog c2O (i8 2) (d1E [(0,0)])
def rk1:Bool:=b8A Try.prog c2O (i8 3) (d1E [(41,9223372036854775807)])
def rk2:Bool:=b4H 0 (d5J (i8 0)) (d1E [(1,40)])
abbrev rk3(b:Bool):Option SegO:=b6k rkK 0 (d5J (si 1)) [] [.bin .lss (si 1) (si 0) (.bool true),rkA,.bin .neq (si 6) (i8 0) (.bool b)] [(0,cdV)]
def d9w:Bool:=b8A Try.prog c2O (i8 10) (rk3 true)
def d9x:Bool:=b4H 1 (d5I (i8 0)) (rk3 false)
def rk4:Bool:=b4H 2 (d5H (i8 0)) (b6k [] 0 (d5J (si 1)) [] [.bin .lss (si 1) (si 0) (.bool false)] [])
abbrev rk5(b:Bool):Option SegO:=b6k (d9r b) 1 (d5I (si 3)) [] [.len false (.sym 2) (si 5),.bin .lss (si 3) (si 5) (.bool true),rkA,.at 13 (.sym 2) (si 3) ⟨.sym 1,0⟩,.bin .add (si 3) (i8 1) (si 4)] [(0,cdV),(1,e2P)]
def d9u:Bool:=b4H 1 (d5I (si 4)) (rk5 true)
def d9v:Bool:=b8A Try.prog c2O (i8 10) (rk5 false)
def rk6:Bool:=b4H 0 (d5J (si 2)) (b6k [] 1 (d5I (si 3)) [] [.len false (.sym 2) (si 5),.bin .lss (si 3) (si 5) (.bool false),rkA,.bin .add (si 1) (i8 1) (si 2)] [(0,cdV)])
def rk7:Bool:=b4H 3 (d5G (i8 0)) (b6k [] 2 (d5H (si 1)) [] [.bin .lss (si 1) (si 0) (.bool true)] [])
def rk8:Bool:=b8A Try.prog c2O (i8 0) (b6k [] 2 (d5H (si 1)) [] [.bin .lss (si 1) (si 0) (.bool false)] [])
def nmV(k:Nat):List VV:=[.sym k,.one,.one,.one,.one,.one,.one,.one,.one,.one,.one]
abbrev rk9(b:Bool):Option SegO:=b6k [] 3 (d5G (si 3)) [] [.bin .lss (si 3) (si 1) (.bool true),rkA,.at 11 (.sym 0) (si 3) ⟨.sym 1,0⟩,.bin .eql (.sym 1) (.sym 4) (.bool b),.bin .add (si 3) (i8 1) (si 4)] [(0,nmV 1),(1,nmV 4)]
def d9s:Bool:=b8A Try.prog c2O (i8 11) (rk9 true)
def d9t:Bool:=b4H 3 (d5G (si 4)) (rk9 false)
def d9y:Bool:=b4H 2 (d5H (si 2)) (b6k [] 3 (d5G (si 3)) [] [.bin .lss (si 3) (si 1) (.bool false),.bin .add (si 1) (i8 1) (si 2)] [])
theorem rkT:([rk0,rk1,rk2,d9w,d9x,rk4,d9u,d9v,rk6,rk7,rk8,d9s,d9t,d9y].all id)=true:=by kernel_rfl
end
end Go.Proofs.Ytmmmknhdigapkaa.plq
namespace Go.Proofs.Ytmmmknhdigapkaa.plq
open Go.Ev Go.RowKit
set_option linter.unusedVariables false
noncomputable section
theorem a8I{b:Bool}(h:b∈ [rk0,rk1,rk2,d9w,d9x,rk4,d9u,d9v,rk6,rk7,rk8,d9s,d9t,d9y]):b=true:=by
 have:=rkT
 rw[List.all_eq_true]at this
 exact this b h
def OutV(φ:Phi):List VV→List Value→Prop
 | [],[]=>True
 |x::l,u::m=>(∀v,VR φ x v→v=u)∧OutV φ l m
 |_,_=>False
theorem OutV.eq{φ:Phi}: ∀{l:List VV} {us vs:List Value},OutV φ l us→VRs φ l vs→vs=us
 | [],[],vs,_,h=>by simpa only[VRs]using h
 | [],u::m,vs,h,_=>h.elim
 |x::l,[],vs,h,_=>h.elim
 |x::l,u::m,vs,h,hv=>by
  simp only[VRs]at hv
  obtain⟨y,ys,rfl,h1,h2⟩:=hv
  rw[h.1 y h1,OutV.eq h.2 h2]
theorem d1i{φ:Phi}{l:List VV}{us:List Value}(h:OutV φ l us): ∀v,VR φ (.agg l) v→v= .agg ⟨us⟩:=fun v hv=>by
 rw[VR]at hv
 obtain⟨vs,h1,h2⟩:=hv
 rw[h2,←h.eq h1]
theorem d0w(a b:ByteArray)(P:Program)(t:TypeId)(w:World):(binOp .eql t (.string a) (.string b)).run P w= .ok (.bool (a.toList==b.toList)) w:=by
 simp[binOp,Op.stringOp]
theorem c5W{ρ:Rho}{x y:VV}{a b:ByteArray}{r:Bool}(hx:a0k ρ x=some (.string a))(hy:a0k ρ y=some (.string b))(h:(a.toList==b.toList)=r):FactOK ρ (.bin .eql x y (.bool r)):=
 ⟨_,_,_,hx,hy,rfl,by simp,by simp,fun P t w=>by rw[←h];exact d0w a b P t w⟩
def Cx.dflt:Cx:=⟨.empty,0,0,0,0,0,0,0,0,0,[],none,0,0,0,fun _=>none,fun _=>0,fun _=>0,fun _=>0,fun _=>none,fun _=>0,fun _=>0,fun _=>0⟩
def PL.at(p:PL)(i:Nat):Cx:=p.cs.getD i Cx.dflt
def okD(cs:List Cx)(D:Cx):Bool:=decide (D.spec (cs.length:Int)=0)&& !c9y cs D
def PL.dup(p:PL):Prop:= ∃i k,k<i∧i<p.cs.length∧(p.at i).name.toList=(p.at k).name.toList
open Classical in
def PL.chk(p:PL):Int:=if p.cs.length=0 then 2 else if 40<p.cs.length then 3 else if p.cs.all (okD p.cs)=true then(if p.dup then 11 else 0)else 10
inductive RkS
 |a (i:Nat)
 |b (i k:Nat)
 |c (i:Nat)
 |d (i k:Nat)
def d5K(p:PL):Pl RkS where
 lab
  |.a _=>0
  |.b _ _=>1
  |.c _=>2
  |.d _ _=>3
 mu
  |.a i=>100000+(p.cs.length-i)*100+50
  |.b i k=>100000+(p.cs.length-i)*100+40-k
  |.c i=>(p.cs.length-i)*100+50
  |.d i k=>(p.cs.length-i)*100+45-k
 tl
  |.a i=>[(0,p.v),(3,n64 i)]
  |.b i k=>[(0,p.v),(3,n64 i),(4,n64 k)]
  |.c i=>[(0,p.v),(5,n64 i)]
  |.d i k=>[(0,p.v),(5,n64 i),(6,n64 k)]
 good
  |.a i=>i≤p.cs.length∧ ∀j,j<i→okD p.cs (p.at j)=true
  |.b i k=>i<p.cs.length∧(∀j,j<i→okD p.cs (p.at j)=true)∧(p.at i).spec (p.cs.length:Int)=0∧k≤(p.at i).abs.length∧ ∀j,j<k→c6Y p.cs ((p.at i).ab j)=false
  |.c i=>i≤p.cs.length∧(∀j,j<p.cs.length→okD p.cs (p.at j)=true)∧ ∀a b,b<a→a<i→(p.at a).name.toList≠(p.at b).name.toList
  |.d i k=>i<p.cs.length∧(∀j,j<p.cs.length→okD p.cs (p.at j)=true)∧k≤i∧(∀a b,b<a→a<i→(p.at a).name.toList≠(p.at b).name.toList)∧ ∀b,b<k→(p.at i).name.toList≠(p.at b).name.toList
def a7D(p:PL)(i k:Nat)(q:Nat×Nat):Sy where
 ints:=[(p.cs.length:Int),(i:Int),((i+1:Nat):Int),(k:Int),((k+1:Nat):Int),((p.at i).abs.length:Int),(p.at i).spec (p.cs.length:Int),0,0,0,(p.at i).kind,(p.at i).c0,(p.at i).c1,(p.at i).c2,(p.at i).c3,(p.at i).color,(p.at i).power,(p.at i).tough,(p.at i).keys]
 vals:=[p.v,.string (p.at i).name,.slice (p.at i).oa (p.at i).abs.length (p.at i).cap,.slice ((p.at i).ca k) ((p.at i).ab k).code.length ((p.at i).cc k),.string (p.at k).name]
 bl:=[(p.pB,p.pO+i*11),q]
theorem PL.OK.later{p:PL}{w w':World}(h:p.OK w)(hs:w.heap.size≤w'.heap.size)(hb: ∀k,k<w.heap.size→w'.heap[k]? =w.heap[k]?):p.OK w':=
 ⟨h.n,fun D hD=>(h.cd D hD).later hs hb,h.sz,fun i D hD=>⟨(h.cell i D hD).1,Nat.lt_of_lt_of_le (h.cell i D hD).2.1 hs,fun j v hj=>by
  rw[←(h.cell i D hD).2.2 j v hj]
  unfold World.cell?
  rw[hb _ (h.cell i D hD).2.1]⟩⟩
theorem c9z{α:Type}{q:α→Bool}{l:List α}{d:α}(h: ∀i,i<l.length→q (l.getD i d)=true):l.all q=true:=by
 rw[List.all_eq_true]
 intro x hx
 obtain⟨i,hi,rfl⟩:=List.getElem_of_mem hx
 have:=h i hi
 rwa [List.getD_eq_getElem?_getD,List.getElem?_eq_getElem hi]at this
theorem c4i{α:Type}{q:α→Bool}{l:List α}{d:α}{i:Nat}(hi:i<l.length)(h:q (l.getD i d)=false): ¬l.all q=true:=by
 intro ha
 rw[List.all_eq_true]at ha
 have:=ha _ (List.getElem_mem hi)
 rw[List.getD_eq_getElem?_getD,List.getElem?_eq_getElem hi]at h
 simp only[Option.getD_some]at h
 rw[h]at this
 cases this
section
variable{p:PL}{w:World}{i k:Nat}{q:Nat×Nat}
theorem at_mem(hi:i<p.cs.length):p.at i∈p.cs:=by
 unfold PL.at
 rw[List.getD_eq_getElem?_getD,List.getElem?_eq_getElem hi]
 exact List.getElem_mem hi
theorem b0V(hi:i<p.cs.length):p.cs[i]? =some (p.at i):=b7r hi
theorem d2U:Cx.dflt.OK w:=⟨fun i hi=>by simp[Cx.dflt]at hi,fun i j hi=>by simp[Cx.dflt]at hi,fun i hi=>by simp[Cx.dflt]at hi,fun z hz=>by simp[Cx.dflt]at hz;subst hz;exact a2T,by simp[Cx.dflt],by simp[Cx.dflt],fun x hx=>by simp[Cx.dflt]at hx⟩
theorem c6H(h:p.OK w)(i:Nat):(p.at i).OK w:=by
 by_cases hi:i<p.cs.length
 ·exact h.cd _ (at_mem hi)
 ·unfold PL.at
  rw[List.getD_eq_getElem?_getD,List.getElem?_eq_none (by omega)]
  exact d2U
theorem c6I(h:p.OK w)(i:Nat):(p.at i).abs.length≤5:=by
 by_cases hi:i<p.cs.length
 ·exact(h.sz _ (at_mem hi)).2.1
 ·unfold PL.at
  rw[List.getD_eq_getElem?_getD,List.getElem?_eq_none (by omega)]
  exact Nat.zero_le _
theorem c0U{D:Cx}{n:Int}:I64 (D.spec n):=by
 have:= @d0y D n
 exact⟨by omega,by omega⟩
theorem c7Y(h:p.OK w)(hi:i≤42)(hk:k≤42):IvL [] (a7D p i k q).ints:=by
 have hn:=h.n
 have ha:=c6I h i
 have f:=(c6H h i).ints
 exact⟨nI (by omega),nI (by omega),nI (by omega),nI (by omega),nI (by omega),nI (by omega),c0U,a2T,a2T,a2T,f _ (by simp),f _ (by simp),f _ (by simp),f _ (by simp),f _ (by simp),f _ (by simp),f _ (by simp),f _ (by simp),f _ (by simp),trivial⟩
theorem d6S{φ:Phi}(hφ:φ.ρ=(a7D p i k q).rho):OutV φ cdV (p.at i).cells11:=⟨a1R hφ rfl,a4G hφ rfl,a4G hφ rfl,a4G hφ rfl,a4G hφ rfl,a4G hφ rfl,a4G hφ rfl,a4G hφ rfl,a4G hφ rfl,a4G hφ rfl,a1R hφ rfl,trivial⟩
theorem d2Z:VRs ⟨fun _=>none,(a7D p i k q).rho⟩ cdV (p.at i).cells11:=a0D (a2N rfl) (a0D (a4r rfl) (a0D (a4r rfl) (a0D (a4r rfl) (a0D (a4r rfl) (a0D (a4r rfl) (a0D (a4r rfl) (a0D (a4r rfl) (a0D (a4r rfl) (a0D (a4r rfl) (a0D (a2N rfl) a4f))))))))))
theorem d1G(h:p.OK w)(hi:i<p.cs.length):b7x Try.prog (a7D p i k q).rho w ⟨25,[.agg cdV,si 0],[],si 6⟩:=fun φ vs w' hφ hs ho hv _=>by
 have e:vs= [(p.at i).val,n64 (p.cs.length:Int)]:=OutV.eq (l:=[.agg cdV,si 0]) ⟨d1i (d6S hφ),a4G hφ rfl,trivial⟩ hv
 rw[e]
 refine(d6Q ((c6H h i).later hs fun k hk=>ho k hk (fun x=>x)) (nI (by have:=h.n;omega))).mono ?_
 rintro en w'' ⟨rfl,hb⟩
 refine⟨_,rfl, ?_,hb⟩
 simp only[si,VR,hφ]
 rfl
theorem d1F(h:p.OK w)(hi:i<p.cs.length)(hk:k<(p.at i).abs.length)(ht:d4k p.cs.length ((p.at i).ab k)){b:Bool}(hb:(!c6Y p.cs ((p.at i).ab k))=b):b7x Try.prog (a7D p i k q).rho w ⟨26,[.sym 0,.sym 3],[],.bool b⟩:=fun φ vs w' hφ hs ho hv _=>by
 have e:vs= [p.v,.slice ((p.at i).ca k) ((p.at i).ab k).code.length ((p.at i).cc k)]:=OutV.eq (l:=[.sym 0,.sym 3]) ⟨a1R hφ rfl,a1R hφ rfl,trivial⟩ hv
 rw[e]
 refine(b6Y (h.later hs fun k hk=>ho k hk (fun x=>x)) (at_mem hi) hk ht).mono ?_
 rintro en w'' ⟨rfl,hbl⟩
 refine⟨_,rfl, ?_,hbl⟩
 rw[hb]
 simp only[VR]
theorem e0r{K:List KE}{ρ:Rho}(h: ∀e∈K,b7x Try.prog ρ w e): @Ext.ok (a0g Try.prog K []) ρ w:=⟨h,(fun e he=>by cases he)⟩
theorem f_L:FactOK (a7D p i k q).rho rkL:=a1S rfl rfl
theorem f_A(h:p.OK w)(hi:i<p.cs.length):FactOK (a7D p i k q).rho rkA:=a3c (n:=i) rfl (h.cell i _ (b0V hi)).1 rfl hi rfl rfl
theorem c5a{s:Sy}{a b n:Nat}(h1:s.ints.getD a 0=(n:Int))(h2:s.ints.getD b 0=((n+1:Nat):Int))(hn:n≤1000000):FactOK s.rho (.bin .add (si a) (i8 1) (si b)):=a8d (a:=(n:Int)) (b:=1) (congrArg (fun z=>some (Value.int .i64 z)) h1) rfl (by
 show s.ints.getD b 0=w64 ((n:Int)+1)
 rw[h2,b0k (by omega)]
 omega)
theorem c5Z{s:Sy}{a b:Nat}{x y:Int}{r:Bool}(h1:s.ints.getD a 0=x)(h2:s.ints.getD b 0=y)(h:decide (x<y)=r):FactOK s.rho (.bin .lss (si a) (si b) (.bool r)):=a3w (k:=.i64) (congrArg (fun z=>some (Value.int .i64 z)) h1) (congrArg (fun z=>some (Value.int .i64 z)) h2) h
theorem c9f(hi:i<p.cs.length):okD p.cs (p.at i)=true↔(p.at i).spec (p.cs.length:Int)=0∧c9y p.cs (p.at i)=false:=by
 unfold okD
 simp
def c9Y:Pl Empty:=⟨fun e=>e.elim,fun e=>e.elim,fun e=>e.elim,fun e=>e.elim⟩
theorem a8L{f:FuncId}{fn:Func}{body:Code}{S:List Nat}{w0:World}{r:Value}(hf:Try.prog.funcs[f]? =some fn)(hb:fn.body=some body)(hnt:fn.ntmps≤top){args:List Value}(h0:Nonempty (Run0 Try.prog fn S body c9Y 1 args r w0)):Calls Try.prog f ⟨args⟩ w0 fun e w'=>e= .returned r∧Below w0.heap.size w0 w':=
 a5A hng mixed hf hb hnt (S:=S) c9Y 1 h0 fun s=>s.elim
set_option maxRecDepth 8000 in
theorem b3E(h:p.OK w)(ht: ∀D∈p.cs,D.spec (p.cs.length:Int)=0→ ∀x∈D.abs,d4k p.cs.length x):Calls Try.prog 11 ⟨[p.v]⟩ w fun e w'=>e= .returned (n64 p.chk)∧Below w.heap.size w w':=by
 have hn:=h.n
 have one:1≤Try.f11.ntmps:=Nat.le_of_ble_eq_true (by kernel_rfl)
 have arg: ∀{iv:List Int},VRs ⟨fun _=>none,(⟨iv,[p.v],[]⟩:Sy).rho⟩ [.sym 0] [p.v]:=a0D (a2N rfl) a4f
 by_cases h0:p.cs.length=0
 ·refine a8L Try.func11 b8i e0Y (b0r (sy:=⟨[(p.cs.length:Int)],[p.v],[]⟩) (a8I (b:=rk0) (by simp)) arg one (a0h noK rfl ⟨⟨by omega,by omega⟩,trivial⟩ (a0F (a1S rfl rfl) a0b) (fun q hq=>by cases hq)) (fun r=>rfl) fun φ hφ u hu=> ?_)
  rw[b6w u hu]
  unfold PL.chk
  rw[if_pos h0]
 by_cases h40:40<p.cs.length
 ·refine a8L Try.func11 b8i e0Y (b0r (sy:=⟨[(p.cs.length:Int)],[p.v],[]⟩) (a8I (b:=rk1) (by simp)) arg one (a0h noK rfl ⟨⟨by omega,by omega⟩,trivial⟩ (a0F (a1S rfl rfl) a0b) (fun q hq=>by cases hq)) (fun r=>rfl) fun φ hφ u hu=> ?_)
  rw[b6w u hu]
  unfold PL.chk
  rw[if_neg h0,if_pos h40]
 have bad: ∀{i:Nat},i<p.cs.length→okD p.cs (p.at i)=false→n64 p.chk=n64 10:=fun hi hb=>by
  unfold PL.chk
  rw[if_neg h0,if_neg h40,if_neg (c4i (d:=Cx.dflt) hi hb)]
 have good:(∀j,j<p.cs.length→okD p.cs (p.at j)=true)→p.chk= @ite _ p.dup (Classical.propDecidable _) 11 0:=fun hg=>by
  unfold PL.chk
  rw[if_neg h0,if_neg h40,if_pos (c9z (d:=Cx.dflt) hg)]
 refine a5A hng mixed Try.func11 b8i e0Y (S:=[0,1,2,3]) (d5K p) 1000000 ?_ ?_
 ·exact b4l (sy:=⟨[(p.cs.length:Int)],[p.v],[]⟩) (.a 0) (a8I (b:=rk2) (by simp)) arg one (a0h noK rfl ⟨⟨by omega,by omega⟩,trivial⟩ (a0F (a1S rfl rfl) a0b) (fun q hq=>by cases hq)) (fun r=>rfl) ⟨Nat.zero_le _,fun i hi=>by omega⟩ (by show 100000+(p.cs.length-0)*100+50<1000000;omega) fun φ hφ=>⟨⟨rfl,a1R hφ rfl⟩,⟨rfl,b6w⟩,trivial⟩
 ·intro s hs w' an
  have h:=h.anc an
  have t: ∀{k:Nat},k<20→k<top:=fun hk=>Nat.lt_of_lt_of_le hk (by decide)
  cases s with
  |a i=>
   obtain⟨hi,hb⟩:=hs
   have inl: ∀{k:Nat} {q:Nat×Nat},InL ⟨fun _=>none,(a7D p i k q).rho⟩ (d5J (si 1)) ((d5K p).tl (.a i)):=⟨⟨rfl,t (by decide),a2N rfl⟩,⟨rfl,t (by decide),a4r rfl⟩,trivial⟩
   have iv: ∀{q:Nat×Nat},IvL [] (a7D p i 0 q).ints:=c7Y h (by omega) (by omega)
   by_cases hlt:i<p.cs.length
   ·have env: ∀{b:Bool},decide ((p.at i).spec (p.cs.length:Int)≠0)=b→ @EnvOK (a0g Try.prog rkK []) (b4F [] [rkL,.bin .lss (si 1) (si 0) (.bool true),rkA,.bin .neq (si 6) (i8 0) (.bool b)] [(0,cdV)]) ⟨fun _=>none,(a7D p i 0 (0,0)).rho⟩ w':=fun{b} hb=>a0h (e0r fun e he=>by
      simp only[rkK,List.mem_singleton]at he
      subst he
      exact d1G h hlt) rfl iv (a0F f_L (a0F (c5Z rfl rfl (decide_eq_true (show(i:Int)<(p.cs.length:Int)by omega))) (a0F (f_A h hlt) (a0F (a8b (k:=.i64) (a:=(p.at i).spec (p.cs.length:Int)) (b:=0) rfl rfl hb) a0b)))) fun q hq=>by
      simp only[List.mem_singleton]at hq
      subst hq
      exact⟨_,(h.cell i _ (b0V hlt)).2,d2Z⟩
    cases hd:decide ((p.at i).spec (p.cs.length:Int)≠0)with
    |true=>
     refine run_ret (sy:=a7D p i 0 (0,0)) (a8I (b:=d9w) (by simp)) inl (env hd) (fun r=>rfl) fun φ hφ u hu=> ?_
     rw[b6w u hu,bad hlt]
     unfold okD
     rw[decide_eq_false (of_decide_eq_true hd),Bool.false_and]
    |false=>
     have e:(p.at i).spec (p.cs.length:Int)=0:=Decidable.not_not.1 (of_decide_eq_false hd)
     exact a2s (sy:=a7D p i 0 (0,0)) (.b i 0) (a8I (b:=d9x) (by simp)) inl (env hd) (fun r=>rfl) ⟨hlt,hb,e,Nat.zero_le _,fun j hj=>by omega⟩ (by show 100000+(p.cs.length-i)*100+40-0<100000+(p.cs.length-i)*100+50;omega) fun φ hφ=>⟨⟨rfl,a1R hφ rfl⟩,⟨rfl,a4G hφ rfl⟩,⟨rfl,b6w⟩,trivial⟩
   ·obtain rfl:i=p.cs.length:=by omega
    exact a2s (sy:=a7D p p.cs.length 0 (0,0)) (.c 0) (a8I (b:=rk4) (by simp)) inl (a0h noK rfl iv (a0F f_L (a0F (c5Z rfl rfl (decide_eq_false (show¬(p.cs.length:Int)<(p.cs.length:Int)by omega))) a0b)) (fun q hq=>by cases hq)) (fun r=>rfl) ⟨Nat.zero_le _,hb,fun a b _ ha=>by omega⟩ (by show(p.cs.length-0)*100+50<100000+(p.cs.length-p.cs.length)*100+50;omega) fun φ hφ=>⟨⟨rfl,a1R hφ rfl⟩,⟨rfl,b6w⟩,trivial⟩
  |b i k=>
   obtain⟨hi,hb,hs0,hk,hc⟩:=hs
   have a5:=c6I h i
   have inl: ∀{q:Nat×Nat},InL ⟨fun _=>none,(a7D p i k q).rho⟩ (d5I (si 3)) ((d5K p).tl (.b i k)):=⟨⟨rfl,t (by decide),a2N rfl⟩,⟨rfl,t (by decide),a4r rfl⟩,⟨rfl,t (by decide),a4r rfl⟩,trivial⟩
   have iv: ∀{q:Nat×Nat},IvL [] (a7D p i k q).ints:=c7Y h (by omega) (by omega)
   have fn: ∀{q:Nat×Nat},FactOK (a7D p i k q).rho (.len false (.sym 2) (si 5)):=a1S rfl rfl
   by_cases hlt:k<(p.at i).abs.length
   ·have ht':=ht _ (at_mem hi) hs0 _ (d0A hlt)
    obtain⟨g1,g2,g3⟩:=(c6H h i).cells k hlt
    have env: ∀{b:Bool},(!c6Y p.cs ((p.at i).ab k))=b→ @EnvOK (a0g Try.prog (d9r b) []) (b4F [] [rkL,.len false (.sym 2) (si 5),.bin .lss (si 3) (si 5) (.bool true),rkA,.at 13 (.sym 2) (si 3) ⟨.sym 1,0⟩,.bin .add (si 3) (i8 1) (si 4)] [(0,cdV),(1,e2P)]) ⟨fun _=>none,(a7D p i k ((p.at i).B,(p.at i).O+k*13)).rho⟩ w':=fun{b} hb=>a0h (e0r fun e he=>by
      simp only[d9r,List.mem_singleton]at he
      subst he
      exact d1F h hi hlt ht' hb) rfl iv (a0F f_L (a0F fn (a0F (c5Z rfl rfl (decide_eq_true (show(k:Int)<((p.at i).abs.length:Int)by omega))) (a0F (f_A h hi) (a0F (a3c (n:=k) rfl g1 rfl hlt rfl rfl) (a0F (c5a (n:=k) rfl rfl (by omega)) a0b)))))) fun q hq=>by
      simp only[List.mem_cons,List.not_mem_nil,or_false]at hq
      rcases hq with rfl|rfl
      ·exact⟨_,(h.cell i _ (b0V hi)).2,d2Z⟩
      ·refine⟨(p.at i).cells k,⟨g2,g3⟩, ?_⟩
       have o: ∀v:Value,v.oneCell'=true→VR ⟨fun _=>none,(a7D p i k ((p.at i).B,(p.at i).O+k*13)).rho⟩ .one v:=fun v hv=>c1x hv
       exact a0D (o _ rfl) (a0D (o _ rfl) (a0D (o _ rfl) (a0D (o _ rfl) (a0D (o _ rfl) (a0D (o _ rfl) (a0D (o _ rfl) (a0D (o _ rfl) (a0D (o _ rfl) (a0D (a2N rfl) (a0D (o _ rfl) (a0D (o _ rfl) (a0D (o _ rfl) a4f))))))))))))
    cases hd:c6Y p.cs ((p.at i).ab k)with
    |true=>
     refine run_ret (sy:=a7D p i k ((p.at i).B,(p.at i).O+k*13)) (a8I (b:=d9v) (by simp)) inl (env (b:=false) (by rw[hd];rfl)) (fun r=>rfl) fun φ hφ u hu=> ?_
     rw[b6w u hu,bad hi]
     have:c9y p.cs (p.at i)=true:=b1A (d:=Ab.zero) hlt hd
     unfold okD
     rw[this]
     simp
    |false=>
     exact a2s (sy:=a7D p i k ((p.at i).B,(p.at i).O+k*13)) (.b i (k+1)) (a8I (b:=d9u) (by simp)) inl (env (b:=true) (by rw[hd];rfl)) (fun r=>rfl) ⟨hi,hb,hs0,hlt,fun j hj=>by
      by_cases e:j=k
      ·rw[e];exact hd
      ·exact hc j (by omega)⟩ (by show 100000+(p.cs.length-i)*100+40-(k+1)<100000+(p.cs.length-i)*100+40-k;omega) fun φ hφ=>⟨⟨rfl,a1R hφ rfl⟩,⟨rfl,a4G hφ rfl⟩,⟨rfl,a4G hφ rfl⟩,trivial⟩
   ·obtain rfl:k=(p.at i).abs.length:=by omega
    exact a2s (sy:=a7D p i (p.at i).abs.length (0,0)) (.a (i+1)) (a8I (b:=rk6) (by simp)) inl (a0h noK rfl iv (a0F f_L (a0F fn (a0F (c5Z rfl rfl (decide_eq_false (show¬((p.at i).abs.length:Int)<((p.at i).abs.length:Int)by omega))) (a0F (f_A h hi) (a0F (c5a (n:=i) rfl rfl (by omega)) a0b))))) fun q hq=>by
      simp only[List.mem_singleton]at hq
      subst hq
      exact⟨_,(h.cell i _ (b0V hi)).2,d2Z⟩) (fun r=>rfl) ⟨hi,fun j hj=>by
      by_cases e:j=i
      ·rw[e]
       exact(c9f hi).2 ⟨hs0,b2o (d:=Ab.zero) hc⟩
      ·exact hb j (by omega)⟩ (by show 100000+(p.cs.length-(i+1))*100+50<100000+(p.cs.length-i)*100+40-(p.at i).abs.length;omega) fun φ hφ=>⟨⟨rfl,a1R hφ rfl⟩,⟨rfl,a4G hφ rfl⟩,trivial⟩
  |c i=>
   obtain⟨hi,hb,hc⟩:=hs
   have inl:InL ⟨fun _=>none,(a7D p i 0 (0,0)).rho⟩ (d5H (si 1)) ((d5K p).tl (.c i)):=⟨⟨rfl,t (by decide),a2N rfl⟩,⟨rfl,t (by decide),a4r rfl⟩,trivial⟩
   have iv:IvL [] (a7D p i 0 (0,0)).ints:=c7Y h (by omega) (by omega)
   by_cases hlt:i<p.cs.length
   ·exact a2s (sy:=a7D p i 0 (0,0)) (.d i 0) (a8I (b:=rk7) (by simp)) inl (a0h noK rfl iv (a0F f_L (a0F (c5Z rfl rfl (decide_eq_true (show(i:Int)<(p.cs.length:Int)by omega))) a0b)) (fun q hq=>by cases hq)) (fun r=>rfl) ⟨hlt,hb,Nat.zero_le _,hc,fun b hb=>by omega⟩ (by show(p.cs.length-i)*100+45-0<(p.cs.length-i)*100+50;omega) fun φ hφ=>⟨⟨rfl,a1R hφ rfl⟩,⟨rfl,a4G hφ rfl⟩,⟨rfl,b6w⟩,trivial⟩
   ·obtain rfl:i=p.cs.length:=by omega
    refine run_ret (sy:=a7D p p.cs.length 0 (0,0)) (a8I (b:=rk8) (by simp)) inl (a0h noK rfl iv (a0F f_L (a0F (c5Z rfl rfl (decide_eq_false (show¬(p.cs.length:Int)<(p.cs.length:Int)by omega))) a0b)) (fun q hq=>by cases hq)) (fun r=>rfl) fun φ hφ u hu=> ?_
    rw[b6w u hu,good hb,if_neg]
    rintro⟨a,b,h1,h2,h3⟩
    exact hc a b h1 h2 h3
  |d i k=>
   obtain⟨hi,hb,hk,hc,he⟩:=hs
   have inl: ∀{q:Nat×Nat},InL ⟨fun _=>none,(a7D p i k q).rho⟩ (d5G (si 3)) ((d5K p).tl (.d i k)):=⟨⟨rfl,t (by decide),a2N rfl⟩,⟨rfl,t (by decide),a4r rfl⟩,⟨rfl,t (by decide),a4r rfl⟩,trivial⟩
   have iv: ∀{q:Nat×Nat},IvL [] (a7D p i k q).ints:=c7Y h (by omega) (by omega)
   by_cases hlt:k<i
   ·have g1:=h.cell i _ (b0V hi)
    have g2:=h.cell k _ (b0V (show k<p.cs.length by omega))
    have env: ∀{b:Bool},((p.at i).name.toList==(p.at k).name.toList)=b→ @EnvOK (a0g Try.prog [] []) (b4F [] [rkL,.bin .lss (si 3) (si 1) (.bool true),rkA,.at 11 (.sym 0) (si 3) ⟨.sym 1,0⟩,.bin .eql (.sym 1) (.sym 4) (.bool b),.bin .add (si 3) (i8 1) (si 4)] [(0,nmV 1),(1,nmV 4)]) ⟨fun _=>none,(a7D p i k (p.pB,p.pO+k*11)).rho⟩ w':=fun{b} hb=>a0h noK rfl iv (a0F f_L (a0F (c5Z rfl rfl (decide_eq_true (show(k:Int)<(i:Int)by omega))) (a0F (f_A h hi) (a0F (a3c (n:=k) rfl g1.1 rfl (show k<p.cs.length by omega) rfl rfl) (a0F (c5W (a:=(p.at i).name) (b:=(p.at k).name) rfl rfl hb) (a0F (c5a (n:=k) rfl rfl (by omega)) a0b)))))) fun q hq=>by
      have o: ∀v:Value,v.oneCell'=true→VR ⟨fun _=>none,(a7D p i k (p.pB,p.pO+k*11)).rho⟩ .one v:=fun v hv=>c1x hv
      simp only[List.mem_cons,List.not_mem_nil,or_false]at hq
      rcases hq with rfl|rfl
      ·exact⟨_,g1.2,a0D (a2N rfl) (a0D (o _ rfl) (a0D (o _ rfl) (a0D (o _ rfl) (a0D (o _ rfl) (a0D (o _ rfl) (a0D (o _ rfl) (a0D (o _ rfl) (a0D (o _ rfl) (a0D (o _ rfl) (a0D (o _ rfl) a4f))))))))))⟩
      ·exact⟨_,g2.2,a0D (a2N rfl) (a0D (o _ rfl) (a0D (o _ rfl) (a0D (o _ rfl) (a0D (o _ rfl) (a0D (o _ rfl) (a0D (o _ rfl) (a0D (o _ rfl) (a0D (o _ rfl) (a0D (o _ rfl) (a0D (o _ rfl) a4f))))))))))⟩
    cases hd:((p.at i).name.toList==(p.at k).name.toList)with
    |true=>
     refine run_ret (sy:=a7D p i k (p.pB,p.pO+k*11)) (a8I (b:=d9s) (by simp)) inl (env hd) (fun r=>rfl) fun φ hφ u hu=> ?_
     rw[b6w u hu,good hb,if_pos]
     exact⟨i,k,hlt,hi,eq_of_beq hd⟩
    |false=>
     exact a2s (sy:=a7D p i k (p.pB,p.pO+k*11)) (.d i (k+1)) (a8I (b:=d9t) (by simp)) inl (env hd) (fun r=>rfl) ⟨hi,hb,hlt,hc,fun b hb=>by
      by_cases e:b=k
      ·rw[e]
       exact ne_of_beq_false hd
      ·exact he b (by omega)⟩ (by show(p.cs.length-i)*100+45-(k+1)<(p.cs.length-i)*100+45-k;omega) fun φ hφ=>⟨⟨rfl,a1R hφ rfl⟩,⟨rfl,a4G hφ rfl⟩,⟨rfl,a4G hφ rfl⟩,trivial⟩
   ·obtain rfl:k=i:=by omega
    exact a2s (sy:=a7D p k k (0,0)) (.c (k+1)) (a8I (b:=d9y) (by simp)) inl (a0h noK rfl iv (a0F f_L (a0F (c5Z rfl rfl (decide_eq_false (show¬(k:Int)<(k:Int)by omega))) (a0F (c5a (n:=k) rfl rfl (by omega)) a0b))) (fun q hq=>by cases hq)) (fun r=>rfl) ⟨hi,hb,fun a b h1 h2=>by
     by_cases e:a=k
     ·rw[e]
      exact he b (by omega)
     ·exact hc a b h1 (by omega)⟩ (by show(p.cs.length-(k+1))*100+50<(p.cs.length-k)*100+45-k;omega) fun φ hφ=>⟨⟨rfl,a1R hφ rfl⟩,⟨rfl,a4G hφ rfl⟩,trivial⟩
end
end
end Go.Proofs.Ytmmmknhdigapkaa.plq
namespace Go.Proofs.Ytmmmknhdigapkaa.plq
open Go.Ev Go.RowKit
set_option linter.unusedVariables false
noncomputable section
def c9g(p:Leaf→Bool)(o:Leaf):Bool:=match p o with|true=>false|false=>true
def upB(p:Leaf→Bool)(t:TrX Leaf)(iv:Ivs)(rs:c3K)(q:Nat)(hi:Int):Bool:=b8D (c9g p) t (a0R iv q hi) rs
def outB(p:Leaf→Bool)(t:TrX Leaf)(iv:Ivs)(rs:c3K)(q:Nat)(lo hi:Int):Bool:=match b8D (c9g p) t (a0a iv q lo) rs with
 |true=>upB p t iv rs q hi
 |false=>false
theorem c3i{p:Leaf→Bool}{t:TrX Leaf}{iv:Ivs}{rs:c3K}{q:Nat}{hi:Int}{ρ:Rho}(h:upB p t iv rs q hi=true)(hv:VOK iv rs ρ.int)(hg:p (a1b t ρ.int)=true):ρ.int q<hi:=by
 unfold upB at h
 rcases Int.lt_or_le (ρ.int q) hi with hl|hl
 ·exact hl
 ·have:=a3A h (v:=ρ.int) ⟨IvOK.lo (ρ:=ρ) hv.1 hl,hv.2⟩
  unfold c9g at this
  rw[hg]at this
  cases this
theorem a9N{p:Leaf→Bool}{t:TrX Leaf}{iv:Ivs}{rs:c3K}{q:Nat}{lo hi:Int}{ρ:Rho}(h:outB p t iv rs q lo hi=true)(hv:VOK iv rs ρ.int)(hg:p (a1b t ρ.int)=true):lo<ρ.int q∧ρ.int q<hi:=by
 unfold outB at h
 split at h
 ·rename_i h1
  refine⟨?_,c3i h hv hg⟩
  rcases Int.lt_or_le lo (ρ.int q)with hl|hl
  ·exact hl
  ·have:=a3A h1 (v:=ρ.int) ⟨IvOK.hi (ρ:=ρ) hv.1 hl,hv.2⟩
   unfold c9g at this
   rw[hg]at this
   cases this
 ·cases h
def boB:Nat→Bool:=fun q=>outB b7G d3S b8U [] q (-1) 1000
theorem boT:(boB 1&&boB 2&&boB 3&&boB 4&&boB 5&&boB 6&&boB 7&&boB 8&&boB 9)=true:=by kernel_rfl
def abB(iv:Ivs)(q:Nat)(lo hi:Int):Bool:=match outB isGo b8R iv [(12,11,true)] q lo hi with
 |true=>outB isGo b8Q iv [(12,11,true)] q lo hi
 |false=>false
def abU:Bool:=match upB isGo b8R (a0R a1t 23 1) [(12,11,true)] 29 1 with
 |true=>upB isGo b8Q (a0R a1t 23 1) [(12,11,true)] 29 1
 |false=>false
def d7i(n:Int):Ivs:=a0R a1t 22 n
def e4E:Ivs:=a0R a1t 23 1
theorem abT:(abB a1t 14 (-1) 1000&&abB a1t 15 (-1) 1000&&abB a1t 16 (-1) 1000&&abB a1t 17 (-1) 1000&&abB a1t 18 (-1) 1000&&abB a1t 19 (-1) 1000&&abB a1t 20 (-1) 1000&&abB a1t 24 (-1) 1000&&abB a1t 25 (-1000) 1000&&abB a1t 26 (-1000) 1000&&abB (d7i 1) 27 (-1) 1000&&abB (d7i 2) 28 (-1) 1000&&abU)=true:=by kernel_rfl
def cdB(q:Nat)(lo hi:Int):Bool:=outB isGo b2h a7l [(3,2,true)] q lo hi
def e0i:Ivs:=a0R (a0a a7l 6 21) 6 21
def e2J:Bool:=match b8D (c9g isGo) b2h (a0a e0i 8 (-1)) [(3,2,true)]with
 |true=>b8D (c9g isGo) b2h e0i [(8,1,false),(3,2,true)]
 |false=>false
theorem cdT:(cdB 6 (-1) 1000&&cdB 7 (-1000) 1000&&cdB 8 (-1000) 1000&&e2J)=true:=by kernel_rfl
structure Ab.Small(x:Ab):Prop where
 nn: ∀z∈ [x.kind,x.event,x.who,x.c0,x.c1,x.c2,x.c3,x.op],0≤z∧z≤999
 a: -999≤x.a∧x.a≤999
 b: -999≤x.b∧x.b≤999
 tl:x.tg.length≤2
 tg: ∀z∈x.tg,0≤z∧z≤999
 cl:x.code.length≤32
 cd: ∀y∈x.code,(0≤y.1∧y.1≤999)∧(-999≤y.2.1∧y.2.1≤999)∧(-999≤y.2.2∧y.2.2≤999)
structure Cx.Small(D:Cx):Prop where
 nm:D.name.size≤16
 nn: ∀z∈ [D.kind,D.c0,D.c1,D.c2,D.c3,D.color,D.power,D.tough,D.keys],0≤z∧z≤999
 al:D.abs.length≤4
 ab: ∀x∈D.abs,x.Small
section
variable{D:Cx}{w:World}{n:Int}
theorem c4B(hs:D.spec n=0):(0≤n∧n≤40)∧D.isLong=false∧D.name.size≠0∧D.body=true∧ ∀i,i<D.abs.length→D.good n i=true:=by
 unfold Cx.spec at hs
 split at hs
 ·cases hs
 ·rename_i h1
  split at hs
  ·cases hs
  ·rename_i h2
   split at hs
   ·cases hs
   ·rename_i h3
    split at hs
    ·rename_i h4
     have h3':=not_or.1 h3
     exact⟨by omega,by simpa using h2,h3'.1,by simpa using h3'.2,fun i hi=>a6k.1 h4.1 i (Nat.zero_le _) (by omega)⟩
    ·cases hs
theorem b2p{a b:Bool}(h:(a&&b)=true):a=true∧b=true:=by simpa using h
theorem c1i{iv:Ivs}{q:Nat}{lo hi:Int}{i:Nat}(h:abB iv q lo hi=true)(hv:VOK iv [(12,11,true)] (D.v n i))(hg:D.good n i=true):lo<D.v n i q∧D.v n i q<hi:=by
 unfold abB at h
 split at h
 ·rename_i h1
  unfold Cx.good at hg
  split at hg
  ·exact a9N (ρ:=D.rho n i) h hv hg
  ·exact a9N (ρ:=D.rho n i) h1 hv hg
 ·cases h
theorem d6m{i:Nat}(h:abU=true)(hv:VOK e4E [(12,11,true)] (D.v n i))(hg:D.good n i=true):D.v n i 29<1:=by
 unfold abU at h
 split at h
 ·rename_i h1
  unfold Cx.good at hg
  split at hg
  ·exact c3i (ρ:=D.rho n i) h hv hg
  ·exact c3i (ρ:=D.rho n i) h1 hv hg
 ·cases h
theorem c8L(h:D.OK w)(hn:I64 n)(hl:D.isLong=false){i:Nat}(hi:i<D.abs.length):VOK a1t [(12,11,true)] (D.v n i):=by
 obtain⟨_,hf⟩:=a4H hl
 exact⟨b0K h hn (by omega) (hf i).1 (hf i).2,fun p hp=>by
  simp only[List.mem_singleton]at hp
  subst hp
  exact decide_eq_true (show(i:Int)<(D.abs.length:Int)by omega)⟩
theorem c5r{t c:Int}{xs:List Ins}{oa:Option Addr}{B O:Nat}(hL:Lst w oa B O xs)(h0:a7R t c xs=0):In4 t c xs∧ ∀j,j<xs.length→isGo (a1b b2h (b2s t c xs j))=true:=by
 unfold a7R at h0
 split at h0
 ·cases h0
 ·rename_i h1
  split at h0
  ·cases h0
  ·rename_i h2
   split at h0
   ·rename_i h3
    exact⟨⟨by omega,by omega,by omega,by omega,by omega⟩,fun j hj=>a6k.1 h3 j (Nat.zero_le _) (by omega)⟩
   ·cases h0
theorem c8U{t c:Int}{xs:List Ins}{oa:Option Addr}{B O:Nat}(hL:Lst w oa B O xs)(hin:In4 t c xs){j:Nat}(hj:j<xs.length):VOK a7l [(3,2,true)] (b2s t c xs j):=
 ⟨d7o (cap:=0) hL hin (i:=j) (by omega),fun p hp=>by
  simp only[List.mem_singleton]at hp
  subst hp
  exact decide_eq_true (show(j:Int)<(xs.length:Int)by omega)⟩
theorem c2u{t c:Int}{xs:List Ins}{oa:Option Addr}{B O:Nat}(hL:Lst w oa B O xs)(h0:a7R t c xs=0): ∀y∈xs,((0≤y.1∧y.1≤999)∧(-999≤y.2.1∧y.2.1≤999)∧(-999≤y.2.2∧y.2.2≤999))∧(y.1=21→0≤y.2.2∧y.2.2<c):=by
 intro y hy
 obtain⟨j,hj,rfl⟩:=List.getElem_of_mem hy
 obtain⟨hin,hg⟩:=c5r hL h0
 have hg:=hg j hj
 have hv:=c8U hL hin hj
 obtain⟨h1,h4⟩:=b2p cdT
 obtain⟨h1,h3⟩:=b2p h1
 obtain⟨h1,h2⟩:=b2p h1
 let ρ:=b9h oa 0 B O t c xs j
 have e:xs[j]=xs.getD j (0,0,0):=by
  rw[List.getD_eq_getElem?_getD,List.getElem?_eq_getElem hj]
  rfl
 rw[e]
 have g6:=a9N (ρ:=ρ) h1 hv hg
 have g7:=a9N (ρ:=ρ) h2 hv hg
 have g8:=a9N (ρ:=ρ) h3 hv hg
 have e6:ρ.int 6=(xs.getD j (0,0,0)).1:=rfl
 have e7:ρ.int 7=(xs.getD j (0,0,0)).2.1:=rfl
 have e8:ρ.int 8=(xs.getD j (0,0,0)).2.2:=rfl
 rw[e6]at g6
 rw[e7]at g7
 rw[e8]at g8
 refine⟨⟨by omega,by omega,by omega⟩,fun h21=> ?_⟩
 have h6:ρ.int 6=21:=h21
 have i1:IvOK (a0a a7l 6 21) ρ:=IvOK.hi (ρ:=ρ) hv.1 (by omega)
 have i2:IvOK e0i ρ:=IvOK.lo (ρ:=ρ) i1 (by omega)
 unfold e2J at h4
 split at h4
 ·rename_i k1
  refine⟨?_, ?_⟩
  ·rcases Int.lt_or_le (ρ.int 8) 0 with hl|hl
   ·have:=a3A k1 (v:=ρ.int) ⟨IvOK.hi (ρ:=ρ) i2 (show ρ.int 8≤ -1 by omega),hv.2⟩
    unfold c9g at this
    rw[show isGo (a1b b2h ρ.int)=true from hg]at this
    cases this
   ·exact hl
  ·rcases Int.lt_or_le (ρ.int 8) (ρ.int 1)with hl|hl
   ·exact hl
   ·have:=a3A h4 (v:=ρ.int) ⟨i2,fun p hp=>by
     rcases List.mem_cons.1 hp with rfl|hp
     ·exact decide_eq_false (by show¬ρ.int 8<ρ.int 1;omega)
     ·exact hv.2 p hp⟩
    unfold c9g at this
    rw[show isGo (a1b b2h ρ.int)=true from hg]at this
    cases this
 ·cases h4
theorem c2G(h:D.OK w)(hs:D.spec n=0):D.Small∧ ∀x∈D.abs,∀y∈x.code,y.1=21→0≤y.2.2∧y.2.2<n:=by
 obtain⟨hn,hl,_,hb,hg⟩:=c4B hs
 obtain⟨⟨l1,l2⟩,hf⟩:=a4H hl
 have hn64:I64 n:=⟨by omega,by omega⟩
 have body: ∀{q:Nat},boB q=true→0≤D.v 0 0 q∧D.v 0 0 q≤999:=fun{q} hq=>by
  have: -1<D.v 0 0 q∧D.v 0 0 q<1000:=a9N (ρ:=D.rho 0 0) hq (d0E (a5X h a2T (Nat.zero_le _))) hb
  omega
 obtain⟨b1,c9⟩:=b2p boT
 obtain⟨b1,c8⟩:=b2p b1
 obtain⟨b1,c7⟩:=b2p b1
 obtain⟨b1,c6⟩:=b2p b1
 obtain⟨b1,c5⟩:=b2p b1
 obtain⟨b1,c4⟩:=b2p b1
 obtain⟨b1,c3⟩:=b2p b1
 obtain⟨c1,c2⟩:=b2p b1
 obtain⟨a1,d29⟩:=b2p abT
 obtain⟨a1,d28⟩:=b2p a1
 obtain⟨a1,d27⟩:=b2p a1
 obtain⟨a1,d26⟩:=b2p a1
 obtain⟨a1,d25⟩:=b2p a1
 obtain⟨a1,d24⟩:=b2p a1
 obtain⟨a1,d20⟩:=b2p a1
 obtain⟨a1,d19⟩:=b2p a1
 obtain⟨a1,d18⟩:=b2p a1
 obtain⟨a1,d17⟩:=b2p a1
 obtain⟨a1,d16⟩:=b2p a1
 obtain⟨d14,d15⟩:=b2p a1
 have ab: ∀i,i<D.abs.length→(D.ab i).Small∧ ∀y∈(D.ab i).code,y.1=21→0≤y.2.2∧y.2.2<n:=fun i hi=>by
  have hv:=c8L h hn64 hl hi
  have hg:=hg i hi
  obtain⟨f1,f2⟩:=hf i
  have L:=h.codes i hi
  have code:(D.ab i).code= []∨a7R ((D.ab i).tg.length:Int) n (D.ab i).code=0:=by
   by_cases hc:(D.ab i).code= []
   ·exact .inl hc
   ·right
    have hpos:0<(D.ab i).code.length:=List.length_pos_iff.2 hc
    have:=d6m d29 ⟨IvOK.lo (ρ:=D.rho n i) hv.1 (show(1:Int)≤((D.ab i).code.length:Int)by omega),hv.2⟩ hg
    have this:a7R ((D.ab i).tg.length:Int) n (D.ab i).code<1:=this
    have:= @b0o ((D.ab i).tg.length:Int) n (D.ab i).code
    omega
  have cs: ∀y∈(D.ab i).code,((0≤y.1∧y.1≤999)∧(-999≤y.2.1∧y.2.1≤999)∧(-999≤y.2.2∧y.2.2≤999))∧(y.1=21→0≤y.2.2∧y.2.2<n):=by
   rcases code with e|e
   ·rw[e]
    intro y hy
    cases hy
   ·exact c2u L e
  have nn: ∀{q:Nat} {z:Int},abB a1t q (-1) 1000=true→D.v n i q=z→0≤z∧z≤999:=fun hq hz=>by
   have:=c1i hq hv hg
   rw[hz]at this
   omega
  have sg: ∀{q:Nat} {z:Int},abB a1t q (-1000) 1000=true→D.v n i q=z→ -999≤z∧z≤999:=fun hq hz=>by
   have:=c1i hq hv hg
   rw[hz]at this
   omega
  refine⟨⟨?_,sg d25 rfl,sg d26 rfl,f1, ?_,f2,fun y hy=>(cs y hy).1⟩,fun y hy=>(cs y hy).2⟩
  ·intro z hz
   simp only[List.mem_cons,List.not_mem_nil,or_false]at hz
   rcases hz with rfl|rfl|rfl|rfl|rfl|rfl|rfl|rfl
   ·exact nn d14 rfl
   ·exact nn d15 rfl
   ·exact nn d16 rfl
   ·exact nn d17 rfl
   ·exact nn d18 rfl
   ·exact nn d19 rfl
   ·exact nn d20 rfl
   ·exact nn d24 rfl
  ·intro z hz
   obtain⟨j,hj,rfl⟩:=List.getElem_of_mem hz
   have e:(D.ab i).tg[j]=(D.ab i).tg.getD j 0:=by
    rw[List.getD_eq_getElem?_getD,List.getElem?_eq_getElem hj]
    rfl
   rw[e]
   match j,hj with
   |0,hj=>
    have: -1<(D.ab i).tg.getD 0 0∧(D.ab i).tg.getD 0 0<1000:=c1i (iv:=d7i 1) d27 ⟨IvOK.lo (ρ:=D.rho n i) hv.1 (show(1:Int)≤((D.ab i).tg.length:Int)by omega),hv.2⟩ hg
    omega
   |1,hj=>
    have: -1<(D.ab i).tg.getD 1 0∧(D.ab i).tg.getD 1 0<1000:=c1i (iv:=d7i 2) d28 ⟨IvOK.lo (ρ:=D.rho n i) hv.1 (show(2:Int)≤((D.ab i).tg.length:Int)by omega),hv.2⟩ hg
    omega
   |j+2,hj=>omega
 have mem: ∀x∈D.abs,∃i,i<D.abs.length∧x=D.ab i:=fun x hx=>by
  obtain⟨i,hi,rfl⟩:=List.getElem_of_mem hx
  refine⟨i,hi, ?_⟩
  unfold Cx.ab
  rw[List.getD_eq_getElem?_getD,List.getElem?_eq_getElem hi]
  rfl
 refine⟨⟨l1, ?_,l2,fun x hx=> ?_⟩,fun x hx=> ?_⟩
 ·intro z hz
  simp only[List.mem_cons,List.not_mem_nil,or_false]at hz
  rcases hz with rfl|rfl|rfl|rfl|rfl|rfl|rfl|rfl|rfl
  ·exact body c1
  ·exact body c2
  ·exact body c3
  ·exact body c4
  ·exact body c5
  ·exact body c6
  ·exact body c7
  ·exact body c8
  ·exact body c9
 ·obtain⟨i,hi,rfl⟩:=mem x hx
  exact(ab i hi).1
 ·obtain⟨i,hi,rfl⟩:=mem x hx
  exact(ab i hi).2
end
theorem c9K{p:PL}{w:World}(h:p.OK w): ∀D∈p.cs,D.spec (p.cs.length:Int)=0→ ∀x∈D.abs,d4k p.cs.length x:=fun D hD hs x hx y hy h21=>by
 obtain⟨h1,h2⟩:=(c2G (h.cd D hD) hs).2 x hx y hy h21
 exact⟨h1,h2⟩
theorem e3Y{p:PL}{w:World}(h:p.OK w):Calls Try.prog 11 ⟨[p.v]⟩ w fun e w'=>e= .returned (n64 p.chk)∧Below w.heap.size w w':=b3E h (c9K h)
end
end Go.Proofs.Ytmmmknhdigapkaa.plq
