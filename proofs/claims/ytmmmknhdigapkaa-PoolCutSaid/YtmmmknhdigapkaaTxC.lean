/-
  Functions whose parts change nothing that is there: contracts by their parts, each run by the kernel.
-/
import Derived.Test.YtmmmknhdigapkaaTxB
import Derived.Test.YtmmmknhdigapkaaEvQe
namespace Go.Proofs.Ytmmmknhdigapkaa.plq
open Go.Ev Go.RowKit
set_option linter.unusedVariables false
noncomputable section
def InL(φ:Phi):List (Nat×VV)→List (Nat×Value)→Prop
 | [],[]=>True|p::l,q::m=>(p.1=q.1∧p.1<top∧VR φ p.2 q.2)∧InL φ l m|_,_=>False
def OutL(φ:Phi):List (Nat×VV)→List (Nat×Value)→Prop
 | [],[]=>True|p::l,q::m=>(p.1=q.1∧ ∀v,VR φ p.2 v→v=q.2)∧OutL φ l m|_,_=>False
def d9q(nt:Nat)(tl:List (Nat×Value))(act:Act):Prop:=act.tmps.size=nt∧act.defers= []∧ ∀q∈tl,act.tmps.getD q.1 undef=q.2
theorem InL.rel{φ:Phi}{act:Act}: ∀{l:List (Nat×VV)} {tl:List (Nat×Value)},InL φ l tl→(∀q∈tl,act.tmps.getD q.1 undef=q.2)→ ∀p∈l,p.1<top∧VR φ p.2 (act.tmps.getD p.1 undef)
 | [],_,_,_,p,hp=>by cases hp
 |x::l,[],h,_,p,hp=>h.elim
 |x::l,q::m,h,hq,p,hp=>by
  obtain⟨⟨h1,h2,h3⟩,h4⟩:=h;rcases List.mem_cons.1 hp with rfl|hp
  ·refine⟨h2, ?_⟩;rw[h1,hq q List.mem_cons_self];exact h3
  ·exact InL.rel h4 (fun q hq'=>hq q (List.mem_cons_of_mem _ hq')) p hp
theorem OutL.at{φ:Phi}{act:Act}: ∀{l:List (Nat×VV)} {tl:List (Nat×Value)},OutL φ l tl→(∀p∈l,VR φ p.2 (act.tmps.getD p.1 undef))→ ∀q∈tl,act.tmps.getD q.1 undef=q.2
 |_,[],_,_,q,hq=>by cases hq
 | [],x::m,h,_,q,hq=>h.elim
 |p::l,x::m,h,hp,q,hq=>by
  obtain⟨⟨h1,h2⟩,h4⟩:=h;rcases List.mem_cons.1 hq with rfl|hq
  ·rw[←h1];exact h2 _ (hp p List.mem_cons_self)
  ·exact OutL.at h4 (fun p hp'=>hp p (List.mem_cons_of_mem _ hp')) q hq
def c5b(P:Program)(K:List KE)(K2:List KE2)(nt:Nat)(S:List Nat)(body:Code)(t:Nat)(l:List (Nat×VV))(E:Env):Option SegO:=match ctx t body 0 []with
 |some (c,K')=>seg (d9J P K K2) nt S 1000 c (t+1) (.lp c t::K') (mkT nt l) ⟨E,.lf,0⟩|none=>none
def d6W(P:Program)(K:List KE)(K2:List KE2)(nt:Nat)(S:List Nat)(body:Code)(l:List VV)(E:Env):Option SegO:=seg (d9J P K K2) nt S 1000 body 0 [] (a5E l 0 .lf) ⟨E,.lf,0⟩
structure Pl(σ:Type) where
 lab:σ→Nat
 mu:σ→Nat
 tl:σ→List (Nat×Value)
 good:σ→Prop
def e3T(P:Program)(res:List ResultVar){σ:Type}(p:Pl σ)(m:Nat)(ρ:Rho)(r:Value):SegO→Prop
 |.cut t a H=> ∃s l,p.good s∧p.mu s<m∧p.lab s=t∧a8R a l=true∧ ∀φ:Phi,φ.ρ=ρ→OutL φ l (p.tl s)|.out x a H=>x= .ret∧ ∃v,a8E P a H res=some [v]∧ ∀φ:Phi,φ.ρ=ρ→ ∀u,VR φ v u→u=r
structure RunA(P:Program)(fn:Func)(S:List Nat)(body:Code){σ:Type}(p:Pl σ)(s:σ)(r:Value)(w:World) where
 K:List KE
 K2:List KE2
 ρ:Rho
 E:Env
 l:List (Nat×VV)
 so:SegO
 inl:InL ⟨fun _=>none,ρ⟩ l (p.tl s)
 env: @EnvOK (a0i P K K2) E ⟨fun _=>none,ρ⟩ w
 blk: ∀r,E.blk r=none
 run:c5b P K K2 fn.ntmps S body (p.lab s) l E=some so
 out:e3T P fn.results.toList p (p.mu s) ρ r so
structure Run0(P:Program)(fn:Func)(S:List Nat)(body:Code){σ:Type}(p:Pl σ)(M:Nat)(args:List Value)(r:Value)(w:World) where
 K:List KE
 K2:List KE2
 ρ:Rho
 E:Env
 l:List VV
 so:SegO
 arg:VRs ⟨fun _=>none,ρ⟩ l args
 len:l.length≤fn.ntmps
 env: @EnvOK (a0i P K K2) E ⟨fun _=>none,ρ⟩ w
 blk: ∀r,E.blk r=none
 run:d6W P K K2 fn.ntmps S body l E=some so
 out:e3T P fn.results.toList p M ρ r so
def plQ(P:Program)(fn:Func)(r:Value)(w0:World):Exit→Act→World→Prop:=fun e act w=>(e= .ret∨e= .normal)∧act.defers= []∧ ∃v,(results fn act.tmps).run P w= .ok v w∧Ending.returned v= .returned r∧Below w0.heap.size w0 w
theorem b6B{w w':World}(h:Anc w w'):Below w.heap.size w w':=⟨h.wk.os,h.wk.tape,h.wk.output,h.wk.size,h.old⟩
def plI{σ:Type}(p:Pl σ)(nt:Nat)(w0:World)(k t:Nat)(act:Act)(w:World):Prop:= ∃s,p.good s∧p.mu s=k∧p.lab s=t∧d9q nt (p.tl s) act∧Anc w0 w
theorem Beh.anc[Ext]{f0:Nat→Option Inf}{ρ:Rho}{nt:Nat}{w:World}{a':VT}{H':VH}{act':Act}{w':World}{φ:Phi}{w1:World}(b:Beh w1 f0 (fun _=>False) ρ nt w a' H' act' w' φ):Anc w w':=⟨b.wk,fun k hk=>b.same k hk (fun h=>h)⟩
section
variable{P:Program}(hng:a6U P)(hm:P.follows .mixedOrders=true){fn:Func}{body:Code}{S:List Nat}{σ:Type}{p:Pl σ}{r:Value}{w0:World}
include hng hm
theorem c0E(hnt:fn.ntmps≤top)(h1: ∀s,p.good s→ ∀w,Anc w0 w→Nonempty (RunA P fn S body p s r w)):
  ∀k t act w,plI p fn.ntmps w0 k t act w→ ∀c K,ctx t body 0 []=some (c,K)→At1 body (.loop c) t K→KOK body K→ ∀HD:Nat→Act→World→Prop,(∀t' act' w',(∃j,j<k∧plI p fn.ntmps w0 j t' act' w')→HD t' act' w'∧ ∀c' K',ctx t' body 0 []=some (c',K')→(Code.loop c').wpIn (Fr none) 0 P (a0S P HD (plQ P fn r w0) K') act' w')→
   c.wpIn (Fr none) 0 P (a0S P HD (plQ P fn r w0) (.lp c t::K)) act w:=by
 rintro k t act w ⟨s,hg,rfl,rfl,⟨hsz,hd,htl⟩,an⟩ c K hc hat hko HD hHD;obtain⟨q⟩:=h1 s hg w an;obtain⟨KK,K2,ρ,E,l,so,inl,env,blk,run,out⟩:=q;unfold c5b at run;rw[hc]at run;simp only at run
 letI:Ext:=a0i P KK K2
 refine a9F (X:=a0i P KK K2) (ρ:=ρ) (a9Q hng hm) hnt hat.loop.2 hko run (c2I hsz hnt (inl.rel htl)) env blk hsz hd (fun k h=>h) ?_;cases so with
 |cut t' a' H'=>intro act' w' φ b;obtain⟨s',l',g1,g2,g3,g4,g5⟩:=out;have hq:=a4c b.tr g4;exact hHD t' act' w' ⟨_,g2,s',g1,rfl,g3,⟨b.sz,b.df,(g5 φ b.rho).at hq⟩,an.trans (Beh.anc b)⟩
 |out x a' H'=>intro act' w' φ b;obtain⟨rfl,v,g1,g2⟩:=out;obtain⟨v',r1,r2⟩:=a1j (P:=P) b.tr b.sim (fn:=fn) g1;exact⟨.inl rfl,b.df,v',r1,by rw[g2 φ b.rho v' r2],b6B (an.trans (Beh.anc b))⟩
theorem b2C{f:FuncId}(hf:P.funcs[f]? =some fn)(hb:fn.body=some body)(hnt:fn.ntmps≤top)(p:Pl σ)(M:Nat){args:List Value}(h0:Nonempty (Run0 P fn S body p M args r w0))(h1: ∀s,p.good s→ ∀w,Anc w0 w→Nonempty (RunA P fn S body p s r w)):
  Calls P f ⟨args⟩ w0 fun e w'=>e= .returned r∧Below w0.heap.size w0 w':=by
 refine a8n hf hb ?_;obtain⟨q⟩:=h0;obtain⟨KK,K2,ρ,E,l,so,arg,len,env,blk,run,out⟩:=q
 letI:Ext:=a0i P KK K2
 have hat:At1 body body 0 []:=fun t _ _=>rfl;have ht:=c1S arg len hnt;generalize hact:({tmps:=(⟨args⟩:Array Value)++Array.replicate (fn.ntmps-(⟨args⟩:Array Value).size) undef,defers:=[]}:Act)=act0
 have hsz:act0.tmps.size=fn.ntmps:=by subst hact;have:=a0R _ _ arg;simp only[Array.size_append,Array.size_replicate,List.size_toArray];omega
 have hd:act0.defers= []:=by subst hact;rfl
 have ht:TR ⟨fun _=>none,ρ⟩ (a5E l 0 .lf) act0.tmps:=by subst hact;exact ht
 show body.wpIn (Fr none) 0 P (plQ P fn r w0) act0 w0;have key:=a9F (X:=a0i P KK K2) (ρ:=ρ) (HD:=fun t act w=> ∃j,j≤M∧plI p fn.ntmps w0 j t act w) (Q:=plQ P fn r w0) (a9Q hng hm) hnt hat (K:=[]) trivial run ht env blk hsz hd (fun k h=>h) ?_
 ·exact key
 cases so with
 |cut t' a' H'=>intro act' w' φ b;obtain⟨s',l',g1,g2,g3,g4,g5⟩:=out;have hq:=a4c b.tr g4;have hI:plI p fn.ntmps w0 (p.mu s') t' act' w':=⟨s',g1,rfl,g3,⟨b.sz,b.df,(g5 φ b.rho).at hq⟩,Beh.anc b⟩;refine⟨⟨_,Nat.le_of_lt g2,hI⟩,fun c' K' hc'=> ?_⟩;have:=b5O (c0E hng hm hnt h1) M t' c' K' hc' M (Nat.le_refl _) act' w' ⟨_,Nat.le_of_lt g2,hI⟩;exact this
 |out x a' H'=>intro act' w' φ b;obtain⟨rfl,v,g1,g2⟩:=out;obtain⟨v',r1,r2⟩:=a1j (P:=P) b.tr b.sim (fn:=fn) g1;exact⟨.inl rfl,b.df,v',r1,by rw[g2 φ b.rho v' r2],b6B (Beh.anc b)⟩
end
def okV(v:Value):Value:=match v.oneCell' with|true=>v|false=>.bool false
theorem d3O(v:Value):(okV v).oneCell'=true:=by
 unfold okV;split
 ·assumption
 ·rfl
structure Sy where
 ints:List Int
 vals:List Value
 bl:List (Nat×Nat)
def Sy.rho(s:Sy):Rho:=⟨fun k=>s.ints.getD k 0,fun k=>okV (s.vals.getD k (.bool false)),fun k=>(s.bl.getD k (0,0)).1,fun k=>(s.bl.getD k (0,0)).2,fun k=>d3O _,fun _=>[],fun _ _ h=>by cases h⟩
def IvL:Ivs→List Int→Prop
 |_,[]=>True| [],x::l=>I64 x∧IvL [] l|(a,b)::iv,x::l=>(a≤x∧x≤b)∧IvL iv l
def c3R:Ivs→Nat→Bool
 | [],_=>true|_::iv,n+1=>c3R iv n
 |(a,b)::iv,0=>match decide (a≤0),decide (0≤b)with
  |true,true=>c3R iv 0|_,_=>false
theorem c2U: ∀{iv:Ivs},c3R iv 0=true→ ∀i,(a2B iv i).1≤0∧0≤(a2B iv i).2
 | [],_,i=>by show(-9223372036854775808:Int)≤0∧(0:Int)≤9223372036854775807;omega
 |(a,b)::iv,h,i=>by
  simp only[c3R]at h;split at h
  ·rename_i h1 h2
   match i with
   |0=>exact⟨of_decide_eq_true h1,of_decide_eq_true h2⟩
   |i+1=>exact c2U h i
  ·cases h
theorem c7G: ∀{iv:Ivs} {l:List Int},IvL iv l→c3R iv l.length=true→ ∀i,(a2B iv i).1≤l.getD i 0∧l.getD i 0≤(a2B iv i).2
 | [],[],_,_,i=>by show(-9223372036854775808:Int)≤0∧(0:Int)≤9223372036854775807;omega
 |(a,b)::iv,[],_,h,i=>c2U h i| [],x::l,h,_,0=>h.1
 | [],x::l,h,hz,i+1=>by have:=c7G (iv:=[]) (l:=l) h.2 rfl i;exact this
 |(a,b)::iv,x::l,h,_,0=>h.1|(a,b)::iv,x::l,h,hz,i+1=>c7G (iv:=iv) (l:=l) h.2 hz i
def c9n{α:Type}(k:Nat):List (Nat×α)→Option α
 | []=>none
 |p::l=>match Nat.beq k p.1 with
  |true=>some p.2|false=>c9n k l
theorem b7d{α:Type}{k:Nat}{a:α}: ∀{l:List (Nat×α)},c9n k l=some a→(k,a)∈l
 | [],h=>by cases h
 |p::l,h=>by
  simp only[c9n]at h;split at h
  ·rename_i hb;cases h;rw[Nat.eq_of_beq_eq_true hb];exact List.mem_cons_self
  ·exact List.mem_cons_of_mem _ (b7d h)
def c4P(iv:Ivs)(fs:List Fact)(sb:List (Nat×List VV)):Env:=⟨fun _=>none,a2B iv,fs,fun i=>c9n i sb⟩
def CellsAt(w:World)(B O:Nat)(l:List Value):Prop:=B<w.heap.size∧ ∀j v,l[j]? =some v→w.cell? ⟨B,O+j,none⟩=some v
theorem CellsAt.later{w w':World}{B O:Nat}{l:List Value}(h:CellsAt w B O l)(an:Anc w w'):CellsAt w' B O l:=
 ⟨Nat.lt_of_lt_of_le h.1 an.wk.size,fun j v hj=>by
  rw[←h.2 j v hj];unfold World.cell?
  rw[an.old _ h.1]⟩
theorem d1t{φ:Phi}: ∀{xs:List VV} {vs:List Value} {j:Nat} {x:VV},VRs φ xs vs→xs[j]? =some x→ ∃v,vs[j]? =some v∧VR φ x v
 | [],_,j,x,_,hx=>by simp at hx
 |y::xs,vs,0,x,h,hx=>by simp only[VRs]at h;obtain⟨v,ws,rfl,h1,h2⟩:=h;cases hx;exact⟨v,rfl,h1⟩
 |y::xs,vs,j+1,x,h,hx=>by simp only[VRs]at h;obtain⟨v,ws,rfl,h1,h2⟩:=h;obtain⟨u,g1,g2⟩:=d1t h2 (by simpa using hx);exact⟨u,by simpa using g1,g2⟩
theorem a2g{X:Ext}{iv:Ivs}{fs:List Fact}{sb:List (Nat×List VV)}{s:Sy}{w:World}(hx:X.ok s.rho w)(hz:c3R iv s.ints.length=true)(hi:IvL iv s.ints)(hf:b1H fs s.rho)
  (hs: ∀q∈sb,∃vs,CellsAt w (s.bl.getD q.1 (0,0)).1 (s.bl.getD q.1 (0,0)).2 vs∧VRs ⟨fun _=>none,s.rho⟩ q.2 vs): @EnvOK X (c4P iv fs sb) ⟨fun _=>none,s.rho⟩ w:=by
 refine @EnvOK.mk X _ _ _ hx (c7G hi hz) (fun x hx=>FactOK.w (hf x hx)) fun k c hk=> ?_;obtain⟨vs,h1,h2⟩:=hs _ (b7d hk);refine⟨h1.1,fun j x hx=> ?_⟩;obtain⟨v,g1,g2⟩:=d1t h2 hx;exact⟨v,h1.2 j v g1,g2⟩
theorem a0I{φ:Phi}{x:VV}{v:Value}{l:List VV}{vs:List Value}(h:VR φ x v)(k:VRs φ l vs):VRs φ (x::l) (v::vs):=by simp only[VRs];exact⟨v,vs,rfl,h,k⟩
theorem b2L{φ:Phi}:VRs φ [] []:=by simp only[VRs]
def n64(n:Int):Value:=.int .i64 n
def i8(n:Int):VV:=.int .i64 n
def d0L(t:Nat)(l:List (Nat×VV)):Option SegO→Bool
 |some (.cut t' a H)=>match Nat.beq t t' with
  |true=>a8R a l|false=>false
 |_=>false
def d1D(P:Program)(res:List ResultVar)(x:VV):Option SegO→Bool
 |some (.out .ret a H)=>match a8E P a H res with
  |some [v]=>a1E v x|_=>false
 |_=>false
theorem c7n{t:Nat}{l:List (Nat×VV)}{o:Option SegO}(h:d0L t l o=true): ∃a H,o=some (.cut t a H)∧a8R a l=true:=by
 unfold d0L at h;split at h
 ·split at h
  ·rename_i hb;rw[Nat.eq_of_beq_eq_true hb];exact⟨_,_,rfl,h⟩
  ·cases h
 ·cases h
theorem c5h{P:Program}{res:List ResultVar}{x:VV}{o:Option SegO}(h:d1D P res x o=true): ∃a H,o=some (.out .ret a H)∧a8E P a H res=some [x]:=by
 unfold d1D at h;split at h
 ·split at h
  ·rename_i h1;rw[a0f _ _ h]at h1;exact⟨_,_,rfl,h1⟩
  ·cases h
 ·cases h
section
variable{P:Program}{fn:Func}{body:Code}{S:List Nat}{σ:Type}{p:Pl σ}{r:Value}{w:World}{K:List KE}{K2:List KE2}{sy:Sy}{E:Env}
theorem b4j{s:σ}(s':σ){l l':List (Nat×VV)}(hk:d0L (p.lab s') l' (c5b P K K2 fn.ntmps S body (p.lab s) l E)=true)(inl:InL ⟨fun _=>none,sy.rho⟩ l (p.tl s))(env: @EnvOK (a0i P K K2) E ⟨fun _=>none,sy.rho⟩ w)(blk: ∀r,E.blk r=none)
  (good:p.good s') (mu:p.mu s'<p.mu s) (outl: ∀φ:Phi,φ.ρ=sy.rho→OutL φ l' (p.tl s')):Nonempty (RunA P fn S body p s r w):=by
 obtain⟨a,H,h1,h2⟩:=c7n hk;exact⟨⟨K,K2,sy.rho,E,l,_,inl,env,blk,h1,s',l',good,mu,rfl,h2,outl⟩⟩
theorem run_ret{s:σ}{l:List (Nat×VV)}{x:VV}(hk:d1D P fn.results.toList x (c5b P K K2 fn.ntmps S body (p.lab s) l E)=true)(inl:InL ⟨fun _=>none,sy.rho⟩ l (p.tl s))(env: @EnvOK (a0i P K K2) E ⟨fun _=>none,sy.rho⟩ w)(blk: ∀r,E.blk r=none)
  (out: ∀φ:Phi,φ.ρ=sy.rho→ ∀u,VR φ x u→u=r):Nonempty (RunA P fn S body p s r w):=by
 obtain⟨a,H,h1,h2⟩:=c5h hk;exact⟨⟨K,K2,sy.rho,E,l,_,inl,env,blk,h1,rfl,x,h2,out⟩⟩
theorem c9F{M:Nat}{args:List Value}(s':σ){l:List VV}{l':List (Nat×VV)}(hk:d0L (p.lab s') l' (d6W P K K2 fn.ntmps S body l E)=true)(arg:VRs ⟨fun _=>none,sy.rho⟩ l args)(len:l.length≤fn.ntmps)(env: @EnvOK (a0i P K K2) E ⟨fun _=>none,sy.rho⟩ w)(blk: ∀r,E.blk r=none)
  (good:p.good s') (mu:p.mu s'<M) (outl: ∀φ:Phi,φ.ρ=sy.rho→OutL φ l' (p.tl s')):Nonempty (Run0 P fn S body p M args r w):=by
 obtain⟨a,H,h1,h2⟩:=c7n hk;exact⟨⟨K,K2,sy.rho,E,l,_,arg,len,env,blk,h1,s',l',good,mu,rfl,h2,outl⟩⟩
theorem c1k{M:Nat}{args:List Value}{l:List VV}{x:VV}(hk:d1D P fn.results.toList x (d6W P K K2 fn.ntmps S body l E)=true)(arg:VRs ⟨fun _=>none,sy.rho⟩ l args)(len:l.length≤fn.ntmps)(env: @EnvOK (a0i P K K2) E ⟨fun _=>none,sy.rho⟩ w)(blk: ∀r,E.blk r=none)
  (out: ∀φ:Phi,φ.ρ=sy.rho→ ∀u,VR φ x u→u=r):Nonempty (Run0 P fn S body p M args r w):=by
 obtain⟨a,H,h1,h2⟩:=c5h hk;exact⟨⟨K,K2,sy.rho,E,l,_,arg,len,env,blk,h1,rfl,x,h2,out⟩⟩
end
section
variable{φ:Phi}{sy:Sy}
theorem a2t(hφ:φ.ρ=sy.rho){k:Nat}{u:Value}(h:okV (sy.vals.getD k (.bool false))=u): ∀v,VR φ (.sym k) v→v=u:=fun v hv=>by simp only[VR,hφ]at hv;rw[hv];exact h
theorem b0y(hφ:φ.ρ=sy.rho){k:Nat}{n:Int}(h:sy.ints.getD k 0=n): ∀v,VR φ (si k) v→v=n64 n:=fun v hv=>by simp only[si,VR,hφ]at hv;rw[hv];exact congrArg (Value.int .i64) h
theorem d5Q{n:Int}: ∀v,VR φ (i8 n) v→v=n64 n:=fun v hv=>by simp only[i8,VR]at hv;exact hv
theorem d1O{b:Bool}: ∀v,VR φ (.bool b) v→v= .bool b:=fun v hv=>by simp only[VR]at hv;exact hv
theorem a5A{k:Nat}{u:Value}(h:okV (sy.vals.getD k (.bool false))=u):VR ⟨fun _=>none,sy.rho⟩ (.sym k) u:=by simp only[VR];exact h.symm
theorem b1I{k:Nat}{n:Int}(h:sy.ints.getD k 0=n):VR ⟨fun _=>none,sy.rho⟩ (si k) (n64 n):=by simp only[si,VR];exact congrArg (Value.int .i64) h.symm
theorem c8o{v:Value}(h:v.oneCell'=true):VR φ .one v:=by simp only[VR];exact h
end
def w64(n:Int):Int:=IntKind.i64.wrap n
theorem b4Y{n:Int}(h: -9223372036854775808≤n∧n≤9223372036854775807):w64 n=n:=by unfold w64;rw[IntKind.wrap_i64];omega
section
variable{ρ:Rho}{x y:VV}{k:IntKind}{a b:Int}{r:Bool}
theorem a6A(hx:a0g ρ x=some (.int k a))(hy:a0g ρ y=some (.int k b))(h:decide (a<b)=r):FactOK ρ (.bin .lss x y (.bool r)):=by refine⟨_,_,_,hx,hy,rfl,by simp,by simp,fun P t w=> ?_⟩;simp[binOp,Op.intCmp,h]
theorem b8J(hx:a0g ρ x=some (.int k a))(hy:a0g ρ y=some (.int k b))(h:decide (a=b)=r):FactOK ρ (.bin .eql x y (.bool r)):=by refine⟨_,_,_,hx,hy,rfl,by simp,by simp,fun P t w=> ?_⟩;subst h;simp[binOp,Op.intCmp];rfl
theorem b8I(hx:a0g ρ x=some (.int k a))(hy:a0g ρ y=some (.int k b))(h:decide (a≠b)=r):FactOK ρ (.bin .neq x y (.bool r)):=by refine⟨_,_,_,hx,hy,rfl,by simp,by simp,fun P t w=> ?_⟩;subst h;simp[binOp,Op.intCmp];rfl
theorem b2h{j:Nat}(hx:a0g ρ x=some (.int .i64 a))(hy:a0g ρ y=some (.int .i64 b))(h:ρ.int j=w64 (a+b)):FactOK ρ (.bin .add x y (si j)):=by refine⟨_,_,_,hx,hy,rfl,by simp,by simp,fun P t w=> ?_⟩;rw[h];simp[binOp,Op.intArith,w64]
theorem b1W{B O l c size j n:Nat}{i:VV}{o:Option Addr}(hx:a0g ρ x=some (.slice o l c))(ha:o=some ⟨B,O,none⟩)(hi:a0g ρ i=some (.int .i64 (n:Int)))(hn:n<l)(hb:ρ.blk j=B)(ho:ρ.off j=O+n*size):FactOK ρ (.at size x i ⟨.sym j,0⟩):=by subst ha;exact⟨⟨B,O,none⟩,l,c,.i64,n,j,hx,rfl,hi,by omega,by omega,rfl,hb,by rw[ho];rfl⟩
theorem a3Y{a:Option Addr}{n c j:Nat}{x:VV}(hx:a0g ρ x=some (.slice a n c))(hi:ρ.int j=(n:Int)):FactOK ρ (.len false x (si j)):=⟨_,_,hx,⟨_,_,rfl⟩,show some _=some _ by rw[hi]⟩
theorem fs_app{f1 f2:List Fact}(h1:b1H f1 ρ)(h2:b1H f2 ρ):b1H (f1++f2) ρ:=fun f hf=>(List.mem_append.1 hf).elim (h1 f) (h2 f)
end
def Cx.cells11(D:Cx):List Value:=[.string D.name,n64 D.kind,n64 D.c0,n64 D.c1,n64 D.c2,n64 D.c3,n64 D.color,n64 D.power,n64 D.tough,n64 D.keys,.slice D.oa D.abs.length D.cap]
structure PL where
 cs:List Cx
 pa:Option Addr
 pc:Nat
 pB:Nat
 pO:Nat
def PL.v(p:PL):Value:=.slice p.pa p.cs.length p.pc
structure PL.OK(p:PL)(w:World):Prop where
 n:p.cs.length≤42
 cd: ∀D∈p.cs,D.OK w
 sz: ∀D∈p.cs,True∧D.abs.length≤5∧ ∀x∈D.abs,x.tg.length≤5∧x.code.length≤35
 cell: ∀i D,p.cs[i]? =some D→p.pa=some ⟨p.pB,p.pO,none⟩∧CellsAt w p.pB (p.pO+i*11) D.cells11
theorem Cx.OK.anc{D:Cx}{w w':World}(h:D.OK w)(an:Anc w w'):D.OK w':=h.later an.wk.size an.old
theorem PL.OK.anc{p:PL}{w w':World}(h:p.OK w)(an:Anc w w'):p.OK w':=
 ⟨h.n,fun D hD=>(h.cd D hD).anc an,h.sz,fun i D hD=>⟨(h.cell i D hD).1,(h.cell i D hD).2.later an⟩⟩
def a4N(cs:List Cx)(b:Int):Int:=match cs[b.toNat]? with
 |some D=>D.kind|none=>0
def d0c(cs:List Cx)(y:Ins):Bool:=decide (y.1=21)&&decide (a4N cs y.2.2≠2)
def d8T(cs:List Cx)(x:Ab):Bool:=x.code.any (d0c cs)
def c8c(cs:List Cx)(D:Cx):Bool:=D.abs.any (d8T cs)
def e2m(n:Nat)(x:Ab):Prop:= ∀y∈x.code,y.1=21→0≤y.2.2∧y.2.2<n
def c6f:Code:=match Try.f24.body with|some c=>c|none=>.skip
theorem d3a:Try.f24.body=some c6f:=rfl
def d8J:VV:=.agg [.sym 3,si 9,.one,.one,.one,.one,.one,.one,.one,.one,.sym 1]
def ones(n:Nat):List VV:=List.replicate n .one
def e2t:List VV:=[.one,.one,.one,.one,.one,.one,.one,.one,.one,.sym 2,.one,.one,.one]
def d9Y(k:VV):List (Nat×VV):=[(0,.sym 0),(10,.sym 1),(11,si 2),(12,k)]
def c9g(j:VV):List (Nat×VV):=[(0,.sym 0),(10,.sym 1),(11,si 2),(12,si 0),(17,.sym 2),(18,si 5),(19,j)]
def e4S:Env:=c4P [] [.len false (.sym 1) (si 2)] []
def e4Q(b:Bool):Env:=c4P [] [.bin .lss (si 0) (si 2) (.bool b),.at 13 (.sym 1) (si 0) ⟨.sym 0,0⟩,.len false (.sym 2) (si 5)] [(0,e2t)]
def e4O:Env:=c4P [] [.bin .lss (si 0) (si 2) (.bool false)] []
def e4P:Env:=c4P [] [.bin .lss (si 3) (si 5) (.bool false),.bin .add (si 0) (i8 1) (si 1)] []
def e4R(b:Bool):Env:=c4P [] [.bin .lss (si 3) (si 5) (.bool true),.at 3 (.sym 2) (si 3) ⟨.sym 1,0⟩,.bin .eql (si 6) (i8 21) (.bool b),.bin .add (si 3) (i8 1) (si 4)] [(1,[si 6,.one,si 7])]
def e1N(b:Bool):Env:=c4P [] [.bin .lss (si 3) (si 5) (.bool true),.at 3 (.sym 2) (si 3) ⟨.sym 1,0⟩,.bin .eql (si 6) (i8 21) (.bool true),.bin .add (si 3) (i8 1) (si 4),.at 11 (.sym 0) (si 7) ⟨.sym 2,0⟩,.bin .neq (si 8) (i8 2) (.bool b)] [(1,[si 6,.one,si 7]),(2,[.one,si 8,.one,.one,.one,.one,.one,.one,.one,.one,.one])]
abbrev c3s(t:Nat)(l:List (Nat×VV))(E:Env):Option SegO:=c5b Try.prog [] [] Try.f24.ntmps [0,1] c6f t l E
def mk0:Bool:=d0L 0 (d9Y (i8 0)) (d6W Try.prog [] [] Try.f24.ntmps [0,1] c6f [.sym 0,d8J] e4S)
def mk1:Bool:=d0L 1 (c9g (i8 0)) (c3s 0 (d9Y (si 0)) (e4Q true))
def mk2:Bool:=d1D Try.prog Try.f24.results.toList (.bool false) (c3s 0 (d9Y (si 0)) e4O)
def mk3:Bool:=d0L 0 (d9Y (si 1)) (c3s 1 (c9g (si 3)) e4P)
def mk4:Bool:=d0L 1 (c9g (si 4)) (c3s 1 (c9g (si 3)) (e4R false))
def mk5:Bool:=d0L 1 (c9g (si 4)) (c3s 1 (c9g (si 3)) (e1N false))
def mk6:Bool:=d1D Try.prog Try.f24.results.toList (.bool true) (c3s 1 (c9g (si 3)) (e1N true))
theorem e4N:([mk0,mk1,mk2,mk3,mk4,mk5,mk6].all id)=true:=by kernel_rfl
theorem c0S{b:Bool}(h:b∈ [mk0,mk1,mk2,mk3,mk4,mk5,mk6]):b=true:=by have:=e4N;rw[List.all_eq_true]at this;exact this b h
theorem e4M:Try.f24.ntmps≤top:=Nat.le_of_ble_eq_true (by kernel_rfl)
theorem hng:a6U Try.prog:=b5C c9f
theorem noK{ρ:Rho}{w:World}: @Ext.ok (a0i Try.prog [] []) ρ w:=⟨(fun e he=>by cases he),(fun e he=>by cases he)⟩
theorem nI{n:Nat}(h:n≤1000000):I64 (n:Int):=⟨by omega,by omega⟩
inductive MkS
 |out (k:Nat)
 |inn (k j:Nat)
def Ab.cd(x:Ab)(j:Nat):Ins:=x.code.getD j (0,0,0)
def d5S(p:PL)(D:Cx):Pl MkS where
 lab
  |.out _=>0|.inn _ _=>1
 mu
  |.out k=>(D.abs.length-k)*100+50|.inn k j=>(D.abs.length-k)*100+40-j
 tl
  |.out k=>[(0,p.v),(10,.slice D.oa D.abs.length D.cap),(11,n64 D.abs.length),(12,n64 k)]|.inn k j=>[(0,p.v),(10,.slice D.oa D.abs.length D.cap),(11,n64 D.abs.length),(12,n64 k),(17,.slice (D.ca k) (D.ab k).code.length (D.cc k)),(18,n64 (D.ab k).code.length),(19,n64 j)]
 good
  |.out k=>k≤D.abs.length∧ ∀i,i<k→d8T p.cs (D.ab i)=false|.inn k j=>k<D.abs.length∧j≤(D.ab k).code.length∧(∀i,i<k→d8T p.cs (D.ab i)=false)∧ ∀i,i<j→d0c p.cs ((D.ab k).cd i)=false
def b6F(p:PL)(D:Cx)(k j:Nat):Sy where
 ints:=[(k:Int),((k+1:Nat):Int),(D.abs.length:Int),(j:Int),((j+1:Nat):Int),((D.ab k).code.length:Int),((D.ab k).cd j).1,((D.ab k).cd j).2.2,a4N p.cs ((D.ab k).cd j).2.2]
 vals:=[p.v,.slice D.oa D.abs.length D.cap,.slice (D.ca k) (D.ab k).code.length (D.cc k)]
 bl:=[(D.B,D.O+k*13),(D.cB k,D.cO k+j*3),(p.pB,p.pO+((D.ab k).cd j).2.2.toNat*11)]
theorem b9C{α:Type}{q:α→Bool}{l:List α}{d:α}(h: ∀i,i<l.length→q (l.getD i d)=false):l.any q=false:=by rw[Bool.eq_false_iff];intro ha;rw[List.any_eq_true]at ha;obtain⟨x,hx,hq⟩:=ha;obtain⟨i,hi,rfl⟩:=List.getElem_of_mem hx;have:=h i hi;rw[List.getD_eq_getElem?_getD,List.getElem?_eq_getElem hi]at this;simp only[Option.getD_some]at this;rw[this]at hq;cases hq
theorem c3H{α:Type}{q:α→Bool}{l:List α}{d:α}{i:Nat}(hi:i<l.length)(h:q (l.getD i d)=true):l.any q=true:=by rw[List.any_eq_true];rw[List.getD_eq_getElem?_getD,List.getElem?_eq_getElem hi]at h;exact⟨_,List.getElem_mem hi,h⟩
section
variable{p:PL}{D:Cx}{w:World}{k:Nat}
theorem Cx.OK.abLen(h:p.OK w)(hD:D∈p.cs)(k:Nat):D.abs.length≤5∧(D.ab k).code.length≤35∧(D.ab k).tg.length≤5:=by
 obtain⟨_,h2,h3⟩:=h.sz D hD;refine⟨h2, ?_⟩
 by_cases hk:k<D.abs.length
 ·have:=h3 (D.ab k) (by unfold Cx.ab;rw[List.getD_eq_getElem?_getD,List.getElem?_eq_getElem hk];exact List.getElem_mem hk);exact⟨this.2,this.1⟩
 ·unfold Cx.ab;rw[List.getD_eq_getElem?_getD,List.getElem?_eq_none (by omega)];exact⟨Nat.zero_le _,Nat.zero_le _⟩
theorem d8b(hk:k<D.abs.length):D.ab k∈D.abs:=by unfold Cx.ab;rw[List.getD_eq_getElem?_getD,List.getElem?_eq_getElem hk];exact List.getElem_mem hk
theorem d7u(h:D.OK w)(hk:k<D.abs.length)(j:Nat):I64 ((D.ab k).cd j).1∧I64 ((D.ab k).cd j).2.1∧I64 ((D.ab k).cd j).2.2:=(h.codes k hk).fit j
theorem c9t(h:p.OK w)(b:Int):I64 (a4N p.cs b):=by
 unfold a4N;split
 ·rename_i D hD;exact(h.cd D (List.mem_of_getElem? hD)).ints _ (by simp)
 ·exact a2d
theorem d7A(h:p.OK w)(hD:D∈p.cs){k j:Nat}(hk:k<D.abs.length)(hj:j≤40):IvL [] (b6F p D k j).ints:=by obtain⟨a1,a2,_⟩:=Cx.OK.abLen h hD k;have f:=d7u (h.cd D hD) hk j;exact⟨nI (by omega),nI (by omega),nI (by omega),nI (by omega),nI (by omega),nI (by omega),f.1,f.2.2,c9t h _,trivial⟩
theorem d0g(h:p.OK w)(hD:D∈p.cs){k j:Nat}(hk:k<D.abs.length): ∃vs,CellsAt w D.B (D.O+k*13) vs∧VRs ⟨fun _=>none,(b6F p D k j).rho⟩ e2t vs:=by obtain⟨g1,g2,g3⟩:=(h.cd D hD).cells k hk;refine⟨D.cells k,⟨g2,g3⟩, ?_⟩;have o: ∀v:Value,v.oneCell'=true→VR ⟨fun _=>none,(b6F p D k j).rho⟩ .one v:=fun v hv=>c8o hv;exact a0I (o _ rfl) (a0I (o _ rfl) (a0I (o _ rfl) (a0I (o _ rfl) (a0I (o _ rfl) (a0I (o _ rfl) (a0I (o _ rfl) (a0I (o _ rfl) (a0I (o _ rfl) (a0I (a5A rfl) (a0I (o _ rfl) (a0I (o _ rfl) (a0I (o _ rfl) b2L))))))))))))
theorem c2t{x:Ab}{a:Option Addr}{B O:Nat}{sy:Sy}(h:Lst w a B O x.code){j:Nat}(hj:j<x.code.length)(h6:sy.ints.getD 6 0=(x.cd j).1)(h7:sy.ints.getD 7 0=(x.cd j).2.2): ∃vs,CellsAt w B (O+j*3) vs∧VRs ⟨fun _=>none,sy.rho⟩ [si 6,.one,si 7] vs:=by
 obtain⟨g1,g2,g3,g4,g5⟩:=h.cells j _ (c1M (d:=(0,0,0)) hj);refine⟨[n64 (x.cd j).1,n64 (x.cd j).2.1,n64 (x.cd j).2.2],⟨g2,fun q v hq=> ?_⟩,a0I (b1I h6) (a0I (c8o rfl) (a0I (b1I h7) b2L))⟩
 match q with
 |0=>cases hq;exact g3
 |1=>cases hq;exact g4
 |2=>cases hq;exact g5
 |q+3=>simp at hq
theorem c8t{sy:Sy}(h:p.OK w){b:Int}(hb:0≤b∧b<p.cs.length)(h8:sy.ints.getD 8 0=a4N p.cs b):p.pa=some ⟨p.pB,p.pO,none⟩∧ ∃vs,CellsAt w p.pB (p.pO+b.toNat*11) vs∧VRs ⟨fun _=>none,sy.rho⟩ [.one,si 8,.one,.one,.one,.one,.one,.one,.one,.one,.one] vs:=by
 have hlt:b.toNat<p.cs.length:=by omega
 obtain⟨g1,g2⟩:=h.cell b.toNat _ (List.getElem?_eq_getElem hlt)
 have hk:a4N p.cs b=(p.cs[b.toNat]).kind:=by unfold a4N;rw[List.getElem?_eq_getElem hlt]
 refine⟨g1,_,g2, ?_⟩;have o: ∀v:Value,v.oneCell'=true→VR ⟨fun _=>none,sy.rho⟩ .one v:=fun v hv=>c8o hv;exact a0I (o _ rfl) (a0I (b1I (h8.trans hk)) (a0I (o _ rfl) (a0I (o _ rfl) (a0I (o _ rfl) (a0I (o _ rfl) (a0I (o _ rfl) (a0I (o _ rfl) (a0I (o _ rfl) (a0I (o _ rfl) (a0I (o _ rfl) b2L))))))))))
theorem c4e{x:Ab}(h: ∀i,i<x.code.length→d0c p.cs (x.cd i)=false):d8T p.cs x=false:=b9C h
theorem e4T(h:p.OK w)(hD:D∈p.cs){k j:Nat}(hj:j≤(D.ab k).code.length):j≤35:=by obtain⟨_,a2,_⟩:=Cx.OK.abLen h hD k;omega
theorem c0U(h:p.OK w)(hD:D∈p.cs)(ht: ∀x∈D.abs,e2m p.cs.length x):Calls Try.prog 24 ⟨[p.v,D.val]⟩ w fun e w'=>e= .returned (.bool (c8c p.cs D))∧Below w.heap.size w w':=by
 obtain⟨a1,_⟩:=Cx.OK.abLen h hD 0;refine b2C hng mixed Try.func24 d3a e4M (S:=[0,1]) (d5S p D) ((D.abs.length+1)*100) ?_ ?_
 ·refine c9F (sy:=⟨[0,0,(D.abs.length:Int),0,0,0,0,0,0,D.kind],[p.v,.slice D.oa D.abs.length D.cap,.bool false,.string D.name],[]⟩) (.out 0) (c0S (b:=mk0) (by simp)) ?_ (by show 2≤_;exact Nat.le_of_ble_eq_true (by kernel_rfl)) (a2g noK rfl ?_ (a0P (a3Y rfl rfl) a1L) (fun q hq=>by cases hq)) (fun r=>rfl) ⟨Nat.zero_le _,fun i hi=>by omega⟩ (by show(D.abs.length-0)*100+50<_;omega) fun φ hφ=>⟨⟨rfl,a2t hφ rfl⟩,⟨rfl,a2t hφ rfl⟩,⟨rfl,b0y hφ rfl⟩,⟨rfl,d5Q⟩,trivial⟩
  ·refine a0I (a5A rfl) (a0I ?_ b2L);have o: ∀{φ:Phi} (v:Value),v.oneCell'=true→VR φ .one v:=fun v hv=>c8o hv;unfold d8J Cx.val;rw[VR];exact⟨_,a0I (a5A rfl) (a0I (b1I rfl) (a0I (o _ rfl) (a0I (o _ rfl) (a0I (o _ rfl) (a0I (o _ rfl) (a0I (o _ rfl) (a0I (o _ rfl) (a0I (o _ rfl) (a0I (o _ rfl) (a0I (a5A rfl) b2L)))))))))),rfl⟩
  ·exact⟨a2d,a2d,nI (by omega),a2d,a2d,a2d,a2d,a2d,a2d,(h.cd D hD).ints _ (by simp),trivial⟩
 ·intro s hs w' an;have h:=h.anc an;cases s with
  |out k=>
   obtain⟨hk,hb⟩:=hs
   by_cases hlt:k<D.abs.length
   ·obtain⟨g1,_,_⟩:=(h.cd D hD).cells k hlt
    refine b4j (sy:=b6F p D k 0) (.inn k 0) (c0S (b:=mk1) (by simp)) ⟨⟨rfl,by show 0<top;decide,a5A rfl⟩,⟨rfl,by show 10<top;decide,a5A rfl⟩,⟨rfl,by show 11<top;decide,b1I rfl⟩,⟨rfl,by show 12<top;decide,b1I rfl⟩,trivial⟩ (a2g noK rfl (d7A h hD hlt (by omega)) ?_ ?_) (fun r=>rfl) ⟨hlt,Nat.zero_le _,hb,fun i hi=>by omega⟩ (by show(D.abs.length-k)*100+40-0<(D.abs.length-k)*100+50;omega)
     fun φ hφ=>⟨⟨rfl,a2t hφ rfl⟩,⟨rfl,a2t hφ rfl⟩,⟨rfl,b0y hφ rfl⟩,⟨rfl,b0y hφ rfl⟩,⟨rfl,a2t hφ rfl⟩,⟨rfl,b0y hφ rfl⟩,⟨rfl,d5Q⟩,trivial⟩
    ·exact a0P (a6A (k:=.i64) (a:=(k:Int)) (b:=(D.abs.length:Int)) rfl rfl (decide_eq_true (by omega))) (a0P (b1W (n:=k) rfl g1 rfl hlt rfl rfl) (a0P (a3Y rfl rfl) a1L))
    ·intro q hq;simp only[List.mem_singleton]at hq;subst hq;exact d0g h hD hlt
   ·obtain rfl:k=D.abs.length:=by omega
    refine run_ret (sy:=⟨[(D.abs.length:Int),0,(D.abs.length:Int)],[p.v,.slice D.oa D.abs.length D.cap],[]⟩) (c0S (b:=mk2) (by simp)) ⟨⟨rfl,by show 0<top;decide,a5A rfl⟩,⟨rfl,by show 10<top;decide,a5A rfl⟩,⟨rfl,by show 11<top;decide,b1I rfl⟩,⟨rfl,by show 12<top;decide,b1I rfl⟩,trivial⟩
     (a2g noK rfl ⟨nI (by omega),a2d,nI (by omega),trivial⟩ (a0P (a6A (k:=.i64) (a:=(D.abs.length:Int)) (b:=(D.abs.length:Int)) rfl rfl (decide_eq_false (by omega))) a1L) (fun q hq=>by cases hq)) (fun r=>rfl) fun φ hφ u hu=> ?_
    have e:c8c p.cs D=false:=b9C (d:=Ab.zero) hb;rw[e];exact d1O u hu
  |inn k j=>
   obtain⟨hk,hj,hb,hc⟩:=hs;have h35:=e4T h hD hj;have L:=(h.cd D hD).codes k hk;have inl:InL ⟨fun _=>none,(b6F p D k j).rho⟩ (c9g (si 3)) ((d5S p D).tl (.inn k j)):=⟨⟨rfl,by show 0<top;decide,a5A rfl⟩,⟨rfl,by show 10<top;decide,a5A rfl⟩,⟨rfl,by show 11<top;decide,b1I rfl⟩,⟨rfl,by show 12<top;decide,b1I rfl⟩,⟨rfl,by show 17<top;decide,a5A rfl⟩,⟨rfl,by show 18<top;decide,b1I rfl⟩,⟨rfl,by show 19<top;decide,b1I rfl⟩,trivial⟩;have iv:=d7A (j:=j) h hD hk (by omega)
   by_cases hlt:j<(D.ab k).code.length
   ·obtain⟨g1,_⟩:=L.cells j _ (c1M (d:=(0,0,0)) hlt);have fl:FactOK (b6F p D k j).rho (.bin .lss (si 3) (si 5) (.bool true)):=a6A (k:=.i64) (a:=(j:Int)) (b:=((D.ab k).code.length:Int)) rfl rfl (decide_eq_true (by omega));have fa:FactOK (b6F p D k j).rho (.at 3 (.sym 2) (si 3) ⟨.sym 1,0⟩):=b1W (n:=j) rfl g1 rfl hlt rfl rfl
    have fd:FactOK (b6F p D k j).rho (.bin .add (si 3) (i8 1) (si 4)):=b2h (a:=(j:Int)) (b:=1) rfl rfl (by
     show((j+1:Nat):Int)=w64 ((j:Int)+1);rw[b4Y (by omega)]
     omega)
    have nx: ∀{b:Bool},d0c p.cs ((D.ab k).cd j)=b→b=false→(d5S p D).good (.inn k (j+1)):=fun hb1 hb2=>⟨hk,hlt,hb,fun i hi=>by
     by_cases e:i=j
     ·rw[e,hb1,hb2]
     ·exact hc i (by omega)⟩
    have ol: ∀φ:Phi,φ.ρ=(b6F p D k j).rho→OutL φ (c9g (si 4)) ((d5S p D).tl (.inn k (j+1))):=fun φ hφ=>⟨⟨rfl,a2t hφ rfl⟩,⟨rfl,a2t hφ rfl⟩,⟨rfl,b0y hφ rfl⟩,⟨rfl,b0y hφ rfl⟩,⟨rfl,a2t hφ rfl⟩,⟨rfl,b0y hφ rfl⟩,⟨rfl,b0y hφ rfl⟩,trivial⟩
    have mu:(d5S p D).mu (.inn k (j+1))<(d5S p D).mu (.inn k j):=by show(D.abs.length-k)*100+40-(j+1)<(D.abs.length-k)*100+40-j;omega
    by_cases h21:((D.ab k).cd j).1=21
    ·have hin:=ht _ (d8b hk) ((D.ab k).cd j) (by unfold Ab.cd;rw[List.getD_eq_getElem?_getD,List.getElem?_eq_getElem hlt];exact List.getElem_mem hlt) h21;obtain⟨t1,t2⟩:=c8t (sy:=b6F p D k j) h hin rfl;have fe:FactOK (b6F p D k j).rho (.bin .eql (si 6) (i8 21) (.bool true)):=b8J (k:=.i64) (a:=((D.ab k).cd j).1) (b:=21) rfl rfl (decide_eq_true h21)
     have ft:FactOK (b6F p D k j).rho (.at 11 (.sym 0) (si 7) ⟨.sym 2,0⟩):=b1W (n:=((D.ab k).cd j).2.2.toNat) rfl t1 (by
      show some (Value.int .i64 ((D.ab k).cd j).2.2)=_
      congr 2
      omega) (by show((D.ab k).cd j).2.2.toNat<p.cs.length;omega) rfl rfl
     have env: ∀{b:Bool},decide (a4N p.cs ((D.ab k).cd j).2.2≠2)=b→ @EnvOK (a0i Try.prog [] []) (e1N b) ⟨fun _=>none,(b6F p D k j).rho⟩ w':=fun{b} hb=>a2g noK rfl iv (a0P fl (a0P fa (a0P fe (a0P fd (a0P ft (a0P (b8I (k:=.i64) (a:=a4N p.cs ((D.ab k).cd j).2.2) (b:=2) rfl rfl hb) a1L)))))) (by
      intro q hq;simp only[List.mem_cons,List.not_mem_nil,or_false]at hq;rcases hq with rfl|rfl
      ·exact c2t L hlt rfl rfl
      ·exact t2)
     cases hd:decide (a4N p.cs ((D.ab k).cd j).2.2≠2)with
     |false=>refine b4j (sy:=b6F p D k j) (.inn k (j+1)) (c0S (b:=mk5) (by simp)) inl (env hd) (fun r=>rfl) (nx ?_ rfl) mu ol;unfold d0c;rw[hd,Bool.and_false]
     |true=>
      refine run_ret (sy:=b6F p D k j) (c0S (b:=mk6) (by simp)) inl (env hd) (fun r=>rfl) fun φ hφ u hu=> ?_
      have e:c8c p.cs D=true:=c3H (d:=Ab.zero) hk (c3H (d:=(0,0,0)) (i:=j) hlt (by
       show d0c p.cs ((D.ab k).cd j)=true;unfold d0c;rw[hd,decide_eq_true h21]
       rfl))
      rw[e];exact d1O u hu
    ·have fe:FactOK (b6F p D k j).rho (.bin .eql (si 6) (i8 21) (.bool false)):=b8J (k:=.i64) (a:=((D.ab k).cd j).1) (b:=21) rfl rfl (decide_eq_false h21);refine b4j (sy:=b6F p D k j) (.inn k (j+1)) (c0S (b:=mk4) (by simp)) inl (a2g noK rfl iv (a0P fl (a0P fa (a0P fe (a0P fd a1L)))) ?_) (fun r=>rfl) (nx ?_ rfl) mu ol
     ·intro q hq;simp only[List.mem_singleton]at hq;subst hq;exact c2t L hlt rfl rfl
     ·unfold d0c;rw[decide_eq_false h21,Bool.false_and]
   ·obtain rfl:j=(D.ab k).code.length:=by omega
    refine b4j (sy:=b6F p D k (D.ab k).code.length) (.out (k+1)) (c0S (b:=mk3) (by simp)) inl (a2g noK rfl iv (a0P (a6A (k:=.i64) (a:=((D.ab k).code.length:Int)) (b:=((D.ab k).code.length:Int)) rfl rfl (decide_eq_false (by omega))) (a0P (b2h (a:=(k:Int)) (b:=1) rfl rfl (by
     show((k+1:Nat):Int)=w64 ((k:Int)+1);rw[b4Y (by omega)]
     omega)) a1L)) (fun q hq=>by cases hq)) (fun r=>rfl) ⟨hk,fun i hi=> ?_⟩ (by show(D.abs.length-(k+1))*100+50<(D.abs.length-k)*100+40-(D.ab k).code.length;omega) fun φ hφ=>⟨⟨rfl,a2t hφ rfl⟩,⟨rfl,a2t hφ rfl⟩,⟨rfl,b0y hφ rfl⟩,⟨rfl,b0y hφ rfl⟩,trivial⟩
    by_cases e:i=k
    ·rw[e];exact c4e hc
    ·exact hb i (by omega)
end
section
variable{p:PL}{D:Cx}{w:World}{k:Nat}
end
def cdV:List VV:=[.sym 1,si 10,si 11,si 12,si 13,si 14,si 15,si 16,si 17,si 18,.sym 2]
def rkL:Fact:=.len false (.sym 0) (si 0)
def rkA:Fact:=.at 11 (.sym 0) (si 1) ⟨.sym 0,0⟩
def OutV(φ:Phi):List VV→List Value→Prop
 | [],[]=>True|x::l,u::m=>(∀v,VR φ x v→v=u)∧OutV φ l m|_,_=>False
theorem OutV.eq{φ:Phi}: ∀{l:List VV} {us vs:List Value},OutV φ l us→VRs φ l vs→vs=us
 | [],[],vs,_,h=>by simpa only[VRs]using h
 | [],u::m,vs,h,_=>h.elim|x::l,[],vs,h,_=>h.elim
 |x::l,u::m,vs,h,hv=>by simp only[VRs]at hv;obtain⟨y,ys,rfl,h1,h2⟩:=hv;rw[h.1 y h1,OutV.eq h.2 h2]
theorem d6q{φ:Phi}{l:List VV}{us:List Value}(h:OutV φ l us): ∀v,VR φ (.agg l) v→v= .agg ⟨us⟩:=fun v hv=>by rw[VR]at hv;obtain⟨vs,h1,h2⟩:=hv;rw[h2,←h.eq h1]
def Cx.dflt:Cx:=⟨.empty,0,0,0,0,0,0,0,0,0,[],none,0,0,0,fun _=>none,fun _=>0,fun _=>0,fun _=>0,fun _=>none,fun _=>0,fun _=>0,fun _=>0⟩
def PL.at(p:PL)(i:Nat):Cx:=p.cs.getD i Cx.dflt
def okD(cs:List Cx)(D:Cx):Bool:=decide (D.spec (cs.length:Int)=0)&& !c8c cs D
def PL.dup(p:PL):Prop:= ∃i k,k<i∧i<p.cs.length∧(p.at i).name.toList=(p.at k).name.toList
open Classical in
def PL.chk(p:PL):Int:=if p.cs.length=0 then 2 else if 40<p.cs.length then 3 else if p.cs.all (okD p.cs)=true then(if p.dup then 11 else 0)else 10
theorem PL.OK.later{p:PL}{w w':World}(h:p.OK w)(hs:w.heap.size≤w'.heap.size)(hb: ∀k,k<w.heap.size→w'.heap[k]? =w.heap[k]?):p.OK w':=
 ⟨h.n,fun D hD=>(h.cd D hD).later hs hb,h.sz,fun i D hD=>⟨(h.cell i D hD).1,Nat.lt_of_lt_of_le (h.cell i D hD).2.1 hs,fun j v hj=>by
  rw[←(h.cell i D hD).2.2 j v hj];unfold World.cell?
  rw[hb _ (h.cell i D hD).2.1]⟩⟩
theorem d8Y{α:Type}{q:α→Bool}{l:List α}{d:α}(h: ∀i,i<l.length→q (l.getD i d)=true):l.all q=true:=by
 rw[List.all_eq_true];intro x hx;obtain⟨i,hi,rfl⟩:=List.getElem_of_mem hx;have:=h i hi
 rwa [List.getD_eq_getElem?_getD,List.getElem?_eq_getElem hi]at this
theorem d3U{α:Type}{q:α→Bool}{l:List α}{d:α}{i:Nat}(hi:i<l.length)(h:q (l.getD i d)=false): ¬l.all q=true:=by intro ha;rw[List.all_eq_true]at ha;have:=ha _ (List.getElem_mem hi);rw[List.getD_eq_getElem?_getD,List.getElem?_eq_getElem hi]at h;simp only[Option.getD_some]at h;rw[h]at this;cases this
section
variable{p:PL}{w:World}{i k:Nat}{q:Nat×Nat}
theorem at_mem(hi:i<p.cs.length):p.at i∈p.cs:=by unfold PL.at;rw[List.getD_eq_getElem?_getD,List.getElem?_eq_getElem hi];exact List.getElem_mem hi
theorem d1q(hi:i<p.cs.length):p.cs[i]? =some (p.at i):=c1M hi
theorem d4R:Cx.dflt.OK w:=⟨fun i hi=>by simp[Cx.dflt]at hi,fun i j hi=>by simp[Cx.dflt]at hi,fun i hi=>by simp[Cx.dflt]at hi,fun z hz=>by simp[Cx.dflt]at hz;subst hz;exact a2d,by simp[Cx.dflt],by simp[Cx.dflt],fun x hx=>by simp[Cx.dflt]at hx⟩
theorem d8V(h:p.OK w)(i:Nat):(p.at i).OK w:=by
 by_cases hi:i<p.cs.length
 ·exact h.cd _ (at_mem hi)
 ·unfold PL.at;rw[List.getD_eq_getElem?_getD,List.getElem?_eq_none (by omega)];exact d4R
theorem d8W(h:p.OK w)(i:Nat):(p.at i).abs.length≤5:=by
 by_cases hi:i<p.cs.length
 ·exact(h.sz _ (at_mem hi)).2.1
 ·unfold PL.at;rw[List.getD_eq_getElem?_getD,List.getElem?_eq_none (by omega)];exact Nat.zero_le _
theorem c9C{D:Cx}{n:Int}:I64 (D.spec n):=by have:= @d2j D n;exact⟨by omega,by omega⟩
theorem e4b{K:List KE}{ρ:Rho}(h: ∀e∈K,c4j Try.prog ρ w e): @Ext.ok (a0i Try.prog K []) ρ w:=⟨h,(fun e he=>by cases he)⟩
theorem e1h{s:Sy}{a b n:Nat}(h1:s.ints.getD a 0=(n:Int))(h2:s.ints.getD b 0=((n+1:Nat):Int))(hn:n≤1000000):FactOK s.rho (.bin .add (si a) (i8 1) (si b)):=b2h (a:=(n:Int)) (b:=1) (congrArg (fun z=>some (Value.int .i64 z)) h1) rfl (by
 show s.ints.getD b 0=w64 ((n:Int)+1);rw[h2,b4Y (by omega)]
 omega)
theorem e1g{s:Sy}{a b:Nat}{x y:Int}{r:Bool}(h1:s.ints.getD a 0=x)(h2:s.ints.getD b 0=y)(h:decide (x<y)=r):FactOK s.rho (.bin .lss (si a) (si b) (.bool r)):=a6A (k:=.i64) (congrArg (fun z=>some (Value.int .i64 z)) h1) (congrArg (fun z=>some (Value.int .i64 z)) h2) h
theorem d6o(hi:i<p.cs.length):okD p.cs (p.at i)=true↔(p.at i).spec (p.cs.length:Int)=0∧c8c p.cs (p.at i)=false:=by
 unfold okD
 simp
def d1F:Pl Empty:=⟨fun e=>e.elim,fun e=>e.elim,fun e=>e.elim,fun e=>e.elim⟩
theorem b6u{f:FuncId}{fn:Func}{body:Code}{S:List Nat}{w0:World}{r:Value}(hf:Try.prog.funcs[f]? =some fn)(hb:fn.body=some body)(hnt:fn.ntmps≤top){args:List Value}(h0:Nonempty (Run0 Try.prog fn S body d1F 1 args r w0)):Calls Try.prog f ⟨args⟩ w0 fun e w'=>e= .returned r∧Below w0.heap.size w0 w':=
 b2C hng mixed hf hb hnt (S:=S) d1F 1 h0 fun s=>s.elim
end
def d1P(p:Leaf→Bool)(o:Leaf):Bool:=match p o with|true=>false|false=>true
def upB(p:Leaf→Bool)(t:TrX Leaf)(iv:Ivs)(rs:c8e)(q:Nat)(hi:Int):Bool:=c1O (d1P p) t (a0n iv q hi) rs
def outB(p:Leaf→Bool)(t:TrX Leaf)(iv:Ivs)(rs:c8e)(q:Nat)(lo hi:Int):Bool:=match c1O (d1P p) t (a2K iv q lo) rs with
 |true=>upB p t iv rs q hi|false=>false
theorem c5F{p:Leaf→Bool}{t:TrX Leaf}{iv:Ivs}{rs:c8e}{q:Nat}{hi:Int}{ρ:Rho}(h:upB p t iv rs q hi=true)(hv:VOK iv rs ρ.int)(hg:p (a2V t ρ.int)=true):ρ.int q<hi:=by
 unfold upB at h;rcases Int.lt_or_le (ρ.int q) hi with hl|hl
 ·exact hl
 ·have:=a3B h (v:=ρ.int) ⟨IvOK.lo (ρ:=ρ) hv.1 hl,hv.2⟩;unfold d1P at this;rw[hg]at this;cases this
theorem a9I{p:Leaf→Bool}{t:TrX Leaf}{iv:Ivs}{rs:c8e}{q:Nat}{lo hi:Int}{ρ:Rho}(h:outB p t iv rs q lo hi=true)(hv:VOK iv rs ρ.int)(hg:p (a2V t ρ.int)=true):lo<ρ.int q∧ρ.int q<hi:=by
 unfold outB at h;split at h
 ·rename_i h1;refine⟨?_,c5F h hv hg⟩;rcases Int.lt_or_le lo (ρ.int q)with hl|hl
  ·exact hl
  ·have:=a3B h1 (v:=ρ.int) ⟨IvOK.hi (ρ:=ρ) hv.1 hl,hv.2⟩;unfold d1P at this;rw[hg]at this;cases this
 ·cases h
def boB:Nat→Bool:=fun q=>outB d3h d8E c3X [] q (-1) 1000
theorem boT:(boB 1&&boB 2&&boB 3&&boB 4&&boB 5&&boB 6&&boB 7&&boB 8&&boB 9)=true:=by kernel_rfl
def abB(iv:Ivs)(q:Nat)(lo hi:Int):Bool:=match outB isGo c3U iv [(12,11,true)] q lo hi with
 |true=>outB isGo c3T iv [(12,11,true)] q lo hi|false=>false
def abU:Bool:=match upB isGo c3U (a0n a2T 23 1) [(12,11,true)] 29 1 with
 |true=>upB isGo c3T (a0n a2T 23 1) [(12,11,true)] 29 1|false=>false
def d9e(n:Int):Ivs:=a0n a2T 22 n
def e4Z:Ivs:=a0n a2T 23 1
theorem abT:(abB a2T 14 (-1) 1000&&abB a2T 15 (-1) 1000&&abB a2T 16 (-1) 1000&&abB a2T 17 (-1) 1000&&abB a2T 18 (-1) 1000&&abB a2T 19 (-1) 1000&&abB a2T 20 (-1) 1000&&abB a2T 24 (-1) 1000&&abB a2T 25 (-1000) 1000&&abB a2T 26 (-1000) 1000&&abB (d9e 1) 27 (-1) 1000&&abB (d9e 2) 28 (-1) 1000&&abU)=true:=by kernel_rfl
def cdB(q:Nat)(lo hi:Int):Bool:=outB isGo b3d a9d [(3,2,true)] q lo hi
def e1Y:Ivs:=a0n (a2K a9d 6 21) 6 21
def e2l:Bool:=match c1O (d1P isGo) b3d (a2K e1Y 8 (-1)) [(3,2,true)]with
 |true=>c1O (d1P isGo) b3d e1Y [(8,1,false),(3,2,true)]|false=>false
theorem cdT:(cdB 6 (-1) 1000&&cdB 7 (-1000) 1000&&cdB 8 (-1000) 1000&&e2l)=true:=by kernel_rfl
structure Ab.Small(x:Ab):Prop where
 nn: ∀z∈ [x.kind,x.event,x.who,x.c0,x.c1,x.c2,x.c3,x.op],0≤z∧z≤999
 a: -999≤x.a∧x.a≤999
 b: -999≤x.b∧x.b≤999
 tl:x.tg.length≤2
 tg: ∀z∈x.tg,0≤z∧z≤999
 cl:x.code.length≤32
 cd: ∀y∈x.code,(0≤y.1∧y.1≤999)∧(-999≤y.2.1∧y.2.1≤999)∧(-999≤y.2.2∧y.2.2≤999)
structure Cx.Small(D:Cx):Prop where
 nm:D.name.size≤16
 nn: ∀z∈ [D.kind,D.c0,D.c1,D.c2,D.c3,D.color,D.power,D.tough,D.keys],0≤z∧z≤999
 al:D.abs.length≤4
 ab: ∀x∈D.abs,x.Small
section
variable{D:Cx}{w:World}{n:Int}
theorem c5W(hs:D.spec n=0):(0≤n∧n≤40)∧D.isLong=false∧D.name.size≠0∧D.body=true∧ ∀i,i<D.abs.length→D.good n i=true:=by
 unfold Cx.spec at hs;split at hs
 ·cases hs
 ·rename_i h1;split at hs
  ·cases hs
  ·rename_i h2;split at hs
   ·cases hs
   ·rename_i h3;split at hs
    ·rename_i h4;have h3':=not_or.1 h3;exact⟨by omega,by simpa using h2,h3'.1,by simpa using h3'.2,fun i hi=>b1b.1 h4.1 i (Nat.zero_le _) (by omega)⟩
    ·cases hs
theorem b3E{a b:Bool}(h:(a&&b)=true):a=true∧b=true:=by simpa using h
theorem c3N{iv:Ivs}{q:Nat}{lo hi:Int}{i:Nat}(h:abB iv q lo hi=true)(hv:VOK iv [(12,11,true)] (D.v n i))(hg:D.good n i=true):lo<D.v n i q∧D.v n i q<hi:=by
 unfold abB at h;split at h
 ·rename_i h1;unfold Cx.good at hg;split at hg
  ·exact a9I (ρ:=D.rho n i) h hv hg
  ·exact a9I (ρ:=D.rho n i) h1 hv hg
 ·cases h
theorem d8d{i:Nat}(h:abU=true)(hv:VOK e4Z [(12,11,true)] (D.v n i))(hg:D.good n i=true):D.v n i 29<1:=by
 unfold abU at h;split at h
 ·rename_i h1;unfold Cx.good at hg;split at hg
  ·exact c5F (ρ:=D.rho n i) h hv hg
  ·exact c5F (ρ:=D.rho n i) h1 hv hg
 ·cases h
theorem d0B(h:D.OK w)(hn:I64 n)(hl:D.isLong=false){i:Nat}(hi:i<D.abs.length):VOK a2T [(12,11,true)] (D.v n i):=by
 obtain⟨_,hf⟩:=b5B hl
 exact⟨c7H h hn (by omega) (hf i).1 (hf i).2,fun p hp=>by
  simp only[List.mem_singleton]at hp;subst hp
  exact decide_eq_true (show(i:Int)<(D.abs.length:Int)by omega)⟩
theorem c7o{t c:Int}{xs:List Ins}{oa:Option Addr}{B O:Nat}(hL:Lst w oa B O xs)(h0:a7y t c xs=0):In4 t c xs∧ ∀j,j<xs.length→isGo (a2V b3d (b4P t c xs j))=true:=by
 unfold a7y at h0;split at h0
 ·cases h0
 ·rename_i h1;split at h0
  ·cases h0
  ·rename_i h2;split at h0
   ·rename_i h3;exact⟨⟨by omega,by omega,by omega,by omega,by omega⟩,fun j hj=>b1b.1 h3 j (Nat.zero_le _) (by omega)⟩
   ·cases h0
theorem d0M{t c:Int}{xs:List Ins}{oa:Option Addr}{B O:Nat}(hL:Lst w oa B O xs)(hin:In4 t c xs){j:Nat}(hj:j<xs.length):VOK a9d [(3,2,true)] (b4P t c xs j):=
 ⟨e3M (cap:=0) hL hin (i:=j) (by omega),fun p hp=>by
  simp only[List.mem_singleton]at hp;subst hp
  exact decide_eq_true (show(j:Int)<(xs.length:Int)by omega)⟩
theorem c4S{t c:Int}{xs:List Ins}{oa:Option Addr}{B O:Nat}(hL:Lst w oa B O xs)(h0:a7y t c xs=0): ∀y∈xs,((0≤y.1∧y.1≤999)∧(-999≤y.2.1∧y.2.1≤999)∧(-999≤y.2.2∧y.2.2≤999))∧(y.1=21→0≤y.2.2∧y.2.2<c):=by
 intro y hy;obtain⟨j,hj,rfl⟩:=List.getElem_of_mem hy;obtain⟨hin,hg⟩:=c7o hL h0;have hg:=hg j hj;have hv:=d0M hL hin hj;obtain⟨h1,h4⟩:=b3E cdT;obtain⟨h1,h3⟩:=b3E h1;obtain⟨h1,h2⟩:=b3E h1
 let ρ:=c2n oa 0 B O t c xs j
 have e:xs[j]=xs.getD j (0,0,0):=by rw[List.getD_eq_getElem?_getD,List.getElem?_eq_getElem hj];rfl
 rw[e];have g6:=a9I (ρ:=ρ) h1 hv hg;have g7:=a9I (ρ:=ρ) h2 hv hg;have g8:=a9I (ρ:=ρ) h3 hv hg;have e6:ρ.int 6=(xs.getD j (0,0,0)).1:=rfl;have e7:ρ.int 7=(xs.getD j (0,0,0)).2.1:=rfl;have e8:ρ.int 8=(xs.getD j (0,0,0)).2.2:=rfl;rw[e6]at g6;rw[e7]at g7;rw[e8]at g8;refine⟨⟨by omega,by omega,by omega⟩,fun h21=> ?_⟩;have h6:ρ.int 6=21:=h21;have i1:IvOK (a2K a9d 6 21) ρ:=IvOK.hi (ρ:=ρ) hv.1 (by omega);have i2:IvOK e1Y ρ:=IvOK.lo (ρ:=ρ) i1 (by omega);unfold e2l at h4;split at h4
 ·rename_i k1;refine⟨?_, ?_⟩
  ·rcases Int.lt_or_le (ρ.int 8) 0 with hl|hl
   ·have:=a3B k1 (v:=ρ.int) ⟨IvOK.hi (ρ:=ρ) i2 (show ρ.int 8≤ -1 by omega),hv.2⟩;unfold d1P at this;rw[show isGo (a2V b3d ρ.int)=true from hg]at this;cases this
   ·exact hl
  ·rcases Int.lt_or_le (ρ.int 8) (ρ.int 1)with hl|hl
   ·exact hl
   ·have:=a3B h4 (v:=ρ.int) ⟨i2,fun p hp=>by
     rcases List.mem_cons.1 hp with rfl|hp
     ·exact decide_eq_false (by show¬ρ.int 8<ρ.int 1;omega)
     ·exact hv.2 p hp⟩
    unfold d1P at this;rw[show isGo (a2V b3d ρ.int)=true from hg]at this;cases this
 ·cases h4
theorem b3n(h:D.OK w)(hs:D.spec n=0):D.Small∧ ∀x∈D.abs,∀y∈x.code,y.1=21→0≤y.2.2∧y.2.2<n:=by
 obtain⟨hn,hl,_,hb,hg⟩:=c5W hs;obtain⟨⟨l1,l2⟩,hf⟩:=b5B hl;have hn64:I64 n:=⟨by omega,by omega⟩
 have body: ∀{q:Nat},boB q=true→0≤D.v 0 0 q∧D.v 0 0 q≤999:=fun{q} hq=>by have: -1<D.v 0 0 q∧D.v 0 0 q<1000:=a9I (ρ:=D.rho 0 0) hq (d8h (b2U h a2d (Nat.zero_le _))) hb;omega
 obtain⟨b1,c9⟩:=b3E boT;obtain⟨b1,c8⟩:=b3E b1;obtain⟨b1,c7⟩:=b3E b1;obtain⟨b1,c6⟩:=b3E b1;obtain⟨b1,c5⟩:=b3E b1;obtain⟨b1,c4⟩:=b3E b1;obtain⟨b1,c3⟩:=b3E b1;obtain⟨c1,c2⟩:=b3E b1;obtain⟨a1,d29⟩:=b3E abT;obtain⟨a1,d28⟩:=b3E a1;obtain⟨a1,d27⟩:=b3E a1;obtain⟨a1,d26⟩:=b3E a1;obtain⟨a1,d25⟩:=b3E a1;obtain⟨a1,d24⟩:=b3E a1;obtain⟨a1,d20⟩:=b3E a1;obtain⟨a1,d19⟩:=b3E a1;obtain⟨a1,d18⟩:=b3E a1;obtain⟨a1,d17⟩:=b3E a1;obtain⟨a1,d16⟩:=b3E a1;obtain⟨d14,d15⟩:=b3E a1
 have ab: ∀i,i<D.abs.length→(D.ab i).Small∧ ∀y∈(D.ab i).code,y.1=21→0≤y.2.2∧y.2.2<n:=fun i hi=>by
  have hv:=d0B h hn64 hl hi;have hg:=hg i hi;obtain⟨f1,f2⟩:=hf i;have L:=h.codes i hi
  have code:(D.ab i).code= []∨a7y ((D.ab i).tg.length:Int) n (D.ab i).code=0:=by
   by_cases hc:(D.ab i).code= []
   ·exact .inl hc
   ·right;have hpos:0<(D.ab i).code.length:=List.length_pos_iff.2 hc;have:=d8d d29 ⟨IvOK.lo (ρ:=D.rho n i) hv.1 (show(1:Int)≤((D.ab i).code.length:Int)by omega),hv.2⟩ hg;have this:a7y ((D.ab i).tg.length:Int) n (D.ab i).code<1:=this;have:= @b1N ((D.ab i).tg.length:Int) n (D.ab i).code;omega
  have cs: ∀y∈(D.ab i).code,((0≤y.1∧y.1≤999)∧(-999≤y.2.1∧y.2.1≤999)∧(-999≤y.2.2∧y.2.2≤999))∧(y.1=21→0≤y.2.2∧y.2.2<n):=by
   rcases code with e|e
   ·rw[e];intro y hy;cases hy
   ·exact c4S L e
  have nn: ∀{q:Nat} {z:Int},abB a2T q (-1) 1000=true→D.v n i q=z→0≤z∧z≤999:=fun hq hz=>by have:=c3N hq hv hg;rw[hz]at this;omega
  have sg: ∀{q:Nat} {z:Int},abB a2T q (-1000) 1000=true→D.v n i q=z→ -999≤z∧z≤999:=fun hq hz=>by have:=c3N hq hv hg;rw[hz]at this;omega
  refine⟨⟨?_,sg d25 rfl,sg d26 rfl,f1, ?_,f2,fun y hy=>(cs y hy).1⟩,fun y hy=>(cs y hy).2⟩
  ·intro z hz;simp only[List.mem_cons,List.not_mem_nil,or_false]at hz;rcases hz with rfl|rfl|rfl|rfl|rfl|rfl|rfl|rfl
   ·exact nn d14 rfl
   ·exact nn d15 rfl
   ·exact nn d16 rfl
   ·exact nn d17 rfl
   ·exact nn d18 rfl
   ·exact nn d19 rfl
   ·exact nn d20 rfl
   ·exact nn d24 rfl
  ·intro z hz;obtain⟨j,hj,rfl⟩:=List.getElem_of_mem hz
   have e:(D.ab i).tg[j]=(D.ab i).tg.getD j 0:=by rw[List.getD_eq_getElem?_getD,List.getElem?_eq_getElem hj];rfl
   rw[e]
   match j,hj with
   |0,hj=>have: -1<(D.ab i).tg.getD 0 0∧(D.ab i).tg.getD 0 0<1000:=c3N (iv:=d9e 1) d27 ⟨IvOK.lo (ρ:=D.rho n i) hv.1 (show(1:Int)≤((D.ab i).tg.length:Int)by omega),hv.2⟩ hg;omega
   |1,hj=>have: -1<(D.ab i).tg.getD 1 0∧(D.ab i).tg.getD 1 0<1000:=c3N (iv:=d9e 2) d28 ⟨IvOK.lo (ρ:=D.rho n i) hv.1 (show(2:Int)≤((D.ab i).tg.length:Int)by omega),hv.2⟩ hg;omega
   |j+2,hj=>omega
 have mem: ∀x∈D.abs,∃i,i<D.abs.length∧x=D.ab i:=fun x hx=>by obtain⟨i,hi,rfl⟩:=List.getElem_of_mem hx;refine⟨i,hi, ?_⟩;unfold Cx.ab;rw[List.getD_eq_getElem?_getD,List.getElem?_eq_getElem hi];rfl
 refine⟨⟨l1, ?_,l2,fun x hx=> ?_⟩,fun x hx=> ?_⟩
 ·intro z hz;simp only[List.mem_cons,List.not_mem_nil,or_false]at hz;rcases hz with rfl|rfl|rfl|rfl|rfl|rfl|rfl|rfl|rfl
  ·exact body c1
  ·exact body c2
  ·exact body c3
  ·exact body c4
  ·exact body c5
  ·exact body c6
  ·exact body c7
  ·exact body c8
  ·exact body c9
 ·obtain⟨i,hi,rfl⟩:=mem x hx;exact(ab i hi).1
 ·obtain⟨i,hi,rfl⟩:=mem x hx;exact(ab i hi).2
end
theorem d6I{p:PL}{w:World}(h:p.OK w): ∀D∈p.cs,D.spec (p.cs.length:Int)=0→ ∀x∈D.abs,e2m p.cs.length x:=fun D hD hs x hx y hy h21=>by obtain⟨h1,h2⟩:=(b3n (h.cd D hD) hs).2 x hx y hy h21;exact⟨h1,h2⟩
end
end Go.Proofs.Ytmmmknhdigapkaa.plq
