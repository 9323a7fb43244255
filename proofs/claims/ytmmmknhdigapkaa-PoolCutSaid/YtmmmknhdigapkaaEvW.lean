/- Engine, part T: what the evaluator says holds of the program. -/
import Derived.Test.YtmmmknhdigapkaaEvS
import Derived.Below
import Derived.ProofKit
import Derived.OpenShut
import Derived.Lib.LaidU8
namespace Go.Ev
open Go.RowKit
noncomputable section
section
theorem HSim.below[Ext]{w0:World}{φ:Phi}{H:VH}{w w':World}(h:HSim w0 φ H w)(hb:Below w.heap.size w w'):HSim w0 φ H w':=by
 have same:=hb.block;have hsz:=h.oldSize;refine⟨h.env,fun r b hr=> ?_,h.old.next hb.size fun k hk _=>same k (by omega),h.own,h.small,fun i o hi=> ?_,h.inj,h.fresh,fun i inf hi=> ?_⟩
 ·obtain⟨o,h1,h2⟩:=h.base r b hr;exact⟨o,by rw[same r (Array.getElem?_eq_some_iff.1 h1).1];exact h1,h2⟩
 ·obtain⟨inf,o',h1,h2,h3,h4⟩:=h.live i o hi;exact⟨inf,o',h1,by rw[same _ (h.bound i inf h1)];exact h2,h3,h4⟩
 ·have:=h.bound i inf hi;have:=hb.size;omega
theorem St.below{φ:Phi}{w w':World}(hb:Below w.heap.size w w'):St φ w φ w':=
 ⟨φ.le_refl,⟨hb.os,hb.tape,hb.output,hb.size⟩,fun k hk _=>hb.block k hk,fun i inf hi=>.inl ⟨i,inf,hi,rfl⟩⟩
end
def e3u:Rho:=⟨fun _=>0,fun _=>.nilIface,fun _=>0,fun _=>0,fun _=>rfl,fun _=>[],fun _ _ h=>by cases h⟩
def e4J:Phi:=⟨fun _=>none,e3u⟩
instance extNone:Ext:=⟨fun _ _=>True,fun _=>False⟩
section
theorem HSim.startE[Ext]{w:World}{ρ:Rho}{E:Env}(h:EnvOK E ⟨fun _=>none,ρ⟩ w)(hb: ∀r b,E.blk r=some b→ ∃o,w.heap[r]? =some o∧BOR b o)(hno: ∀k,¬Ext.own k:=by intro k h;exact h):HSim w ⟨fun _=>none,ρ⟩ ⟨E,.lf,0⟩ w:=
 ⟨h,hb,⟨Nat.le_refl _,(fun _ _ _=>rfl),fun _ _ _=>hno _⟩,(fun i inf h=>by cases h),Nat.zero_le _,(fun i o h=>by cases h),(fun i j oi oj inf jnf h=>by cases h),(fun _ _=>rfl),(fun i inf h=>by cases h)⟩
end
theorem HSim.start(w:World):HSim w e4J ⟨Env.none,.lf,0⟩ w:=
 HSim.startE ⟨trivial,fun _=>⟨Int.le_refl _,Int.le_refl _⟩,(fun f h=>by cases h),(fun i c h=>by cases h)⟩ (fun r b h=>by cases h)
def c9e(P:Program):Bool:=P.funcs.toList.all fun fn=> !(fn.name== "runtime.NumGoroutine")
theorem b5C{P:Program}(h:c9e P=true):a6U P:=by
 intro g fn hg
 have:=List.all_eq_true.1 h fn (by
  have:=Array.mem_of_getElem? hg
  simpa using this)
 simpa using this
section
def TT.allV{α:Type}(p:Option α→Bool):TT α→Bool
 |.lf=>true
 |.nd l v r=>match p v with
  |true=>match TT.allV p l with
   |true=>TT.allV p r|false=>false
  |false=>false
def TT.all2{α β:Type}(p:Option α→Option β→Bool):TT α→TT β→Bool
 |.lf,b=>TT.allV (p none) b
 |.nd l v r,b=>match b with
  |.lf=>TT.allV (fun x=>p x none) (.nd l v r)
  |.nd l' v' r'=>match p v v' with
   |true=>match TT.all2 p l l' with
    |true=>TT.all2 p r r'|false=>false
   |false=>false
theorem TT.allV_get{α:Type}{p:Option α→Bool}(h0:p none=true): ∀{t:TT α},TT.allV p t=true→ ∀n,p (t.get n)=true
 |.lf,_,n=>h0
 |.nd l v r,h,n=>by
  simp only[TT.allV]at h;split at h
  ·rename_i h1;split at h
   ·rename_i h2;rw[TT.get_nd];split
    ·exact h1
    ·split
     ·exact TT.allV_get h0 h2 _
     ·exact TT.allV_get h0 h _
   ·cases h
  ·cases h
theorem TT.all2_get{α β:Type}{p:Option α→Option β→Bool}(h0:p none none=true): ∀{a:TT α} {b:TT β},TT.all2 p a b=true→ ∀n,p (a.get n) (b.get n)=true
 |.lf,b,h,n=>TT.allV_get h0 (by simpa only[TT.all2]using h) n|.nd l v r,.lf,h,n=>TT.allV_get (p:=fun x=>p x none) h0 (by simpa only[TT.all2]using h) n
 |.nd l v r,.nd l' v' r',h,n=>by
  simp only[TT.all2]at h;split at h
  ·rename_i h1;split at h
   ·rename_i h2;rw[TT.get_nd,TT.get_nd];split
    ·exact h1
    ·split
     ·exact TT.all2_get h0 h2 _
     ·exact TT.all2_get h0 h _
   ·cases h
  ·cases h
def okT:Option VV→Option VV→Bool
 |none,none=>true
 |some x,some y=>match y with
  |.any=>true|y=>a1E x y
 |none,some y=>match y with
  |.any=>true|_=>false
 |some _,none=>false
def a5Z:Option Nat→Option Nat→Bool
 |none,none=>true|some a,some b=>Nat.beq a b|_,_=>false
def d5W:List (VV×VV×Nat)→List (VV×VV×Nat)→Bool
 | [],[]=>true
 |(k,v,n)::a,(k',v',n')::b=>match a1E k k',a1E v v',Nat.beq n n' with
  |true,true,true=>d5W a b|_,_,_=>false
 |_,_=>false
def c4M:List (VV×VV)→List (VV×VV)→Bool
 | [],[]=>true
 |(k,v)::a,(k',v')::b=>match a1E k k',a1E v v' with
  |true,true=>c4M a b|_,_=>false
 |_,_=>false
def d0p:VO→VO→Bool
 |.cells c g ro et,.cells c' g' ro' et'=>match vvsEq c c',a5Z g g',Nat.beq ro ro',a5Z et et' with
  |true,true,true,true=>true|_,_,_,_=>false
 |.map es c,.map es' c'=>match d5W es es',Nat.beq c c' with
  |true,true=>true|_,_=>false
 |.mapU es,.mapU es'=>c4M es es'
 |.list j n sz l et,.list j' n' sz' l' et'=>match Nat.beq j j',Nat.beq n n',Nat.beq sz sz',vvsEq l l',a5Z et et' with
  |true,true,true,true,true=>true|_,_,_,_,_=>false
 |_,_=>false
def okL:Option VO→Option VO→Bool
 |_,none=>true|some o,some o'=>d0p o o'|none,some _=>false
def wkB(a:VT)(H:VH)(a':VT)(H':VH):Bool:=match Nat.beq H.next H'.next,TT.all2 okT a a' with
 |true,true=>TT.all2 okL H.locs H'.locs|_,_=>false
theorem a2O{a b:Option Nat}(h:a5Z a b=true):a=b:=by cases a<;>cases b<;>simp[a5Z]at h ⊢;exact h
theorem c7d: ∀{a b:List (VV×VV×Nat)},d5W a b=true→a=b
 | [],[],_=>rfl
 | [],_::_,h=>by simp[d5W]at h
 |_::_,[],h=>by simp[d5W]at h
 |(k,v,n)::a,(k',v',n')::b,h=>by
  simp only[d5W]at h;split at h
  ·rename_i h1 h2 h3;rw[a0f _ _ h1,a0f _ _ h2,Nat.eq_of_beq_eq_true h3,c7d h]
  ·cases h
theorem c2i: ∀{a b:List (VV×VV)},c4M a b=true→a=b
 | [],[],_=>rfl
 | [],_::_,h=>by simp[c4M]at h
 |_::_,[],h=>by simp[c4M]at h
 |(k,v)::a,(k',v')::b,h=>by
  simp only[c4M]at h;split at h
  ·rename_i h1 h2;rw[a0f _ _ h1,a0f _ _ h2,c2i h]
  ·cases h
theorem a8z{a b:VO}(h:d0p a b=true):a=b:=by
 unfold d0p at h;split at h
 ·split at h
  ·rename_i h1 h2 h3 h4;rw[vvsEq_eq _ _ h1,a2O h2,Nat.eq_of_beq_eq_true h3,a2O h4]
  ·cases h
 ·split at h
  ·rename_i h1 h2;rw[c7d h1,Nat.eq_of_beq_eq_true h2]
  ·cases h
 ·rw[c2i h]
 ·split at h
  ·rename_i h1 h2 h3 h4 h5;rw[Nat.eq_of_beq_eq_true h1,Nat.eq_of_beq_eq_true h2,Nat.eq_of_beq_eq_true h3,vvsEq_eq _ _ h4,a2O h5]
  ·cases h
 ·cases h
theorem d5j{a a':VT}{H H':VH}(h:wkB a H a' H'=true){φ:Phi}{tmps:Array Value}(k:TR φ a tmps):TR φ a' tmps:=by
 unfold wkB at h;split at h
 ·rename_i _ h2;intro t;have:=TT.all2_get (p:=okT) rfl h2 t;have kt:=k t;unfold a1I at kt ⊢;revert this kt;generalize a.get t=x;generalize a'.get t=y;intro this kt;cases x with
  |none=>cases y with
   |none=>exact kt
   |some y=>cases y<;>first|(simp only[VR];done)|(simp[okT]at this)
  |some x=>cases y with
   |none=>simp[okT]at this
   |some y=>
    simp only
    have hy:y= .any∨a1E x y=true:=by cases y<;>first|exact .inl rfl|exact .inr (by simpa only[okT]using this)
    rcases hy with rfl|hy
    ·simp only[VR]
    ·rw[←a0f _ _ hy];exact kt
 ·cases h
theorem d2D[Ext]{a a':VT}{H H':VH}(h:wkB a H a' H'=true)(hb:H'.base=H.base){w0:World}{φ:Phi}{w:World}(k:HSim w0 φ H w):HSim w0 φ H' w:=by
 unfold wkB at h;split at h
 ·rename_i h1 _;have hn:H.next=H'.next:=Nat.eq_of_beq_eq_true h1
  have sub: ∀i o,H'.locs.get i=some o→H.locs.get i=some o:=by
   intro i o hi;have:=TT.all2_get (p:=okL) rfl h i;rw[hi]at this;cases hx:H.locs.get i with
   |none=>rw[hx]at this;simp[okL]at this
   |some x=>rw[hx]at this;simp only[okL]at this;rw[a8z this]
  refine⟨by rw[hb];exact k.env,by rw[hb];exact k.base,k.old,k.own,by rw[←hn];exact k.small,fun i o hi=> ?_,fun i j oi oj inf jnf hi hj=>k.inj i j oi oj inf jnf (sub i oi hi) (sub j oj hj),by rw[←hn];exact k.fresh,k.bound⟩;rw[hb];exact k.live i o (sub i o hi)
 ·cases h
def CS[Ext](P:Program)(nt:Nat)(c:Code)(a:VT)(H:VH)(x:VX)(a₁:VT)(H₁:VH):Prop:=
 nt≤top→ ∀(w0:World) (φ:Phi) (act:Act) (w:World),TR φ a act.tmps→HSim w0 φ H w→nt≤act.tmps.size→ ∀b:Nat→Prop,(True→ ∀r,w.heap.size≤r→b r)→MarksOK b w0 φ H w act.defers→c.wpIn (Fr none) 0 P (PostC b w0 φ w act.tmps.size H x a₁ H₁) act w
def LS[Ext](P:Program)(nt:Nat)(c:Code)(a:VT)(H:VH)(x:VX)(a₁:VT)(H₁:VH):Prop:=
 nt≤top→ ∀w0,d1v P (· =none) w0 nt c a H x a₁ H₁
section
variable{P:Program}{nt:Nat}{a a₁ a₂:VT}{H H₁ H₂:VH}{x:VX}
theorem CS.seq[Ext]{y z:Code}(h1:CS P nt y a H .normal a₁ H₁)(h2:CS P nt z a₁ H₁ x a₂ H₂):CS P nt (.seq y z) a H x a₂ H₂:=by intro hnt w0 φ act w ht hs hn b hbs hd;refine wpIn_seq ?_;refine wpIn_mono (h1 hnt w0 φ act w ht hs hn b hbs hd) ?_;intro e' act' w' hp;obtain⟨φ',rfl,k2,k3,k4,k5,k6,k7⟩:=hp;have k':=h2 hnt w0 φ' act' w' k3 k4 (by omega) b (fun t r hr=>hbs t r (by have:=k2.wk.size;omega)) k7;refine wpIn_mono k' ?_;intro e'' act'' w'' hp';rw[k6]at hp';exact PostC.trans k2 k5 hp'
theorem CS.cond[Ext]{o:Operand}{y z:Code}{v:Bool}(hc:a0A a o=some (.bool v))(h:CS P nt (match v with|true=>y|false=>z) a H x a₁ H₁):CS P nt (.cond o y z) a H x a₁ H₁:=by
 intro hnt w0 φ act w ht hs hn b hbs hd;have hv:=a0B ht hc;simp only[VR]at hv;refine wpIn_cond hv ?_;cases v with
 |true=>exact h hnt w0 φ act w ht hs hn b hbs hd
 |false=>exact h hnt w0 φ act w ht hs hn b hbs hd
def outB(id:Nat):VX→VX
 |.exit j=>match Nat.beq j id with
  |true=>.normal|false=>.exit j
 |x=>x
theorem CS.block[Ext]{id:Nat}{c:Code}(h:CS P nt c a H x a₁ H₁):CS P nt (.block id c) a H (outB id x) a₁ H₁:=by
 intro hnt w0 φ act w ht hs hn b hbs hd;refine wpIn_block ?_;refine wpIn_mono (h hnt w0 φ act w ht hs hn b hbs hd) ?_;intro e' act' w' hp;cases x with
 |normal=>obtain⟨φ',rfl,k2⟩:=hp;exact⟨φ',rfl,k2⟩
 |ret=>obtain⟨φ',rfl,k2⟩:=hp;exact⟨φ',rfl,k2⟩
 |exit j=>
  obtain⟨φ',rfl,k2⟩:=hp;simp only[VX.real,Exit.inBlock,outB];cases hj:Nat.beq j id with
  |true=>rw[if_pos (Nat.eq_of_beq_eq_true hj)];exact⟨φ',rfl,k2⟩
  |false=>rw[if_neg (by intro e;rw[e]at hj;simp at hj)];exact⟨φ',rfl,k2⟩
theorem LS.next[Ext]{c:Code}(h1:CS P nt c a H .normal a₁ H₁)(h2:LS P nt c a₁ H₁ x a₂ H₂):LS P nt c a H x a₂ H₂:=by intro hnt w0;obtain⟨m,hm⟩:=h2 hnt w0;refine⟨m+1,fun r hR φ act w ht hs hn b hbs hd Q hQ=> ?_⟩;rw[roundsIn_succ];subst hR;refine wpIn_mono (h1 hnt w0 φ act w ht hs hn b hbs hd) ?_;intro e act' w' hp;obtain⟨φ',rfl,k2,k3,k4,k5,k6,k7⟩:=hp;refine hm none rfl φ' act' w' k3 k4 (by omega) b (fun t r hr=>hbs t r (by have:=k2.wk.size;omega)) k7 Q fun e'' act'' w'' hp'=>hQ e'' act'' w'' ?_;rw[k6]at hp';exact PostC.trans k2 k5 hp'
theorem CS.loop[Ext]{c:Code}(h:LS P nt c a H x a₁ H₁):CS P nt (.loop c) a H x a₁ H₁:=by intro hnt w0 φ act w ht hs hn b hbs hd;exact(h hnt w0).wp none rfl φ act w ht hs hn b hbs hd
theorem CS.call[Ext]{f:FuncId}{fn:Func}{c:Code}{args:List VV}{l:List VV}(hf:P.funcs[f]? =some fn)(hc:fn.body=some c)(h1:Nat.ble args.length fn.ntmps=true)(h2:Nat.ble fn.ntmps top=true)(h:CS P fn.ntmps c (a5E args 0 .lf) H x a₁ H₁)(hx: ∀id,x≠ .exit id)(hr:a8E P a₁ H₁ fn.results.toList=some l)(w0:World):
  b4X P w0 f args H fun u K=>u=c9V l∧K=H₁:=by
 classical
 let rc:CE:=fun nt' c' a' H'=>if nt'=fn.ntmps∧c'=c∧a'=a5E args 0 .lf∧H'=H then some (x,a₁,H₁)else none
 have hrc:d0l P (· =none) rc:=by
  intro w0 nt' c' a' H' x' a₁' H₁' hq hb r hR φ act w ht hs hn b hbs hd
  by_cases hk:nt'=fn.ntmps∧c'=c∧a'=a5E args 0 .lf∧H'=H
  ·simp only[rc,if_pos hk,Option.some.injEq,Prod.mk.injEq]at hq;obtain⟨rfl,rfl,rfl⟩:=hq;obtain⟨rfl,rfl,rfl,rfl⟩:=hk;subst hR;exact h hb w0 φ act w ht hs hn b hbs hd
  ·simp only[rc,if_neg hk]at hq;cases hq
 refine b1p (R:=(· =none)) rfl hrc w0 f args H (c9V l) H₁ ?_;unfold c5U;simp only[hf,hc,h1,h2,rc,if_true,and_self,hr]
end
section
variable{P:Program}{nt:Nat}
theorem CS.pre[Ext]{c:Code}{a a':VT}{H H':VH}{x:VX}{a₁:VT}{H₁:VH}(h:wkB a H a' H'=true)(hb:H'.base=H.base)(k:CS P nt c a' H' x a₁ H₁):CS P nt c a H x a₁ H₁:=by intro hnt w0 φ act w ht hs hn b hbs hd;refine wpIn_mono (k hnt w0 φ act w (d5j h ht) (d2D h hb hs) hn b hbs (hd.step (.refl φ w) hb)) ?_;intro e act' w' hp;obtain⟨φ',h1,h2,h3,h4,h5,h6,h7⟩:=hp;exact⟨φ',h1,h2,h3,h4,h5.trans hb,h6,h7⟩
end
end
section
variable{P:Program}{nt:Nat}{a a₁ a₂:VT}{H H₁ H₂:VH}{x:VX}
end
structure KE where
 f:FuncId
 xs:List VV
 pre:List (Nat×VO)
 r:VV
def preB(H:VH):List (Nat×VO)→Bool
 | []=>true
 |(i,o)::l=>match H.locs.get i with
  |some o'=>match d0p o' o with
   |true=>preB H l|false=>false
  |none=>false
def b8H(f:FuncId)(args:List VV)(H:VH):List KE→Option VV
 | []=>none
 |e::l=>match Nat.beq e.f f with
  |true=>match vvsEq e.xs args with
   |true=>match preB H e.pre with
    |true=>some e.r|false=>b8H f args H l
   |false=>b8H f args H l
  |false=>b8H f args H l
def knL(KT:List KE):KN:=fun f args H=>match b8H f args H KT with
 |some r=>some (r,H)|none=>none
def c5p(φ:Phi)(pre:List (Nat×VO))(w:World):Prop:= ∀p∈pre,∃inf o',φ p.1=some inf∧w.heap[inf.blk]? =some o'∧OR φ inf p.2 o'
def c4j(P:Program)(ρ:Rho)(w0:World)(e:KE)(S:Nat→Prop:=fun _=>False):Prop:=
 ∀(φ:Phi) (vs:List Value) (w:World),φ.ρ=ρ→w0.heap.size≤w.heap.size→(∀k,k<w0.heap.size→ ¬S k→w.heap[k]? =w0.heap[k]?)→VRs φ e.xs vs→c5p φ e.pre w→
  Calls P e.f ⟨vs⟩ w fun en w'=> ∃v,en= .returned v∧VR φ e.r v∧Below w.heap.size w w'
theorem b4I{f:FuncId}{args:List VV}{H:VH}{r:VV}: ∀{l:List KE},b8H f args H l=some r→ ∃e∈l,e.f=f∧e.xs=args∧preB H e.pre=true∧e.r=r
 | [],h=>by simp[b8H]at h
 |e::l,h=>by
  have next:b8H f args H l=some r→ ∃e'∈e::l,e'.f=f∧e'.xs=args∧preB H e'.pre=true∧e'.r=r:=fun k=>by obtain⟨e',h1,h2⟩:=b4I k;exact⟨e',by simp[h1],h2⟩
  simp only[b8H]at h;split at h
  ·rename_i h1;split at h
   ·rename_i h2;split at h
    ·rename_i h3;simp only[Option.some.injEq]at h;exact⟨e,by simp,Nat.eq_of_beq_eq_true h1,vvsEq_eq _ _ h2,h3,h⟩
    ·exact next h
   ·exact next h
  ·exact next h
theorem c5q[Ext]{w0:World}{φ:Phi}{H:VH}{w:World}(hs:HSim w0 φ H w): ∀{l:List (Nat×VO)},preB H l=true→c5p φ l w
 | [],_=>fun p hp=>by cases hp
 |(i,o)::l,h=>by
  simp only[preB]at h;split at h
  ·rename_i o' ho;split at h
   ·rename_i hv;have:=a8z hv;subst this;intro p hp;rcases List.mem_cons.1 hp with rfl|hp
    ·obtain⟨inf,o'',h1,h2,h3,_⟩:=hs.live i _ ho;exact⟨inf,o'',h1,h2,h3⟩
    ·exact c5q hs h p hp
   ·cases h
  ·cases h
theorem c2R[Ext]{P:Program}{KT:List KE}(hx: ∀ρ w0,Ext.ok ρ w0→ ∀e∈KT,c4j P ρ w0 e Ext.own):c4o P (knL KT):=by
 intro w0 f args H v H' h;unfold knL at h;split at h
 ·rename_i r hr;simp only[Option.some.injEq,Prod.mk.injEq]at h;obtain⟨rfl,rfl⟩:=h;obtain⟨e,he,rfl,rfl,h3,rfl⟩:=b4I hr;intro φ w args' ha hs;refine(hx φ.ρ w0 hs.env.ext e he φ args' w rfl hs.oldSize hs.old.same ha (c5q hs h3)).mono ?_;rintro en w' ⟨v',rfl,hv,hb⟩;exact⟨e.r,v',φ,H,rfl,St.below hb,hv,hs.below hb,rfl,rfl,rfl⟩
 ·cases h
abbrev Ivs:=List (Int×Int)
def a2B(l:Ivs)(i:Nat):Int×Int:=match a0H l i with
 |some p=>p|none=>(-9223372036854775808,9223372036854775807)
def a2K:Ivs→Nat→Int→Ivs
 | [],_,_=>[]|(a,b)::l,0,c=>(a,match decide (b≤c)with|true=>b|false=>c)::l|p::l,n+1,c=>p::a2K l n c
def a0n:Ivs→Nat→Int→Ivs
 | [],_,_=>[]|(a,b)::l,0,c=>(match decide (c≤a)with|true=>a|false=>c,b)::l|p::l,n+1,c=>p::a0n l n c
inductive Tr where
 |leaf
 |cut (i:Nat) (c:Int) (l r:Tr)
 |rel (k:IntKind) (i j:Nat) (l r:Tr)
def IvOK(iv:Ivs)(ρ:Rho):Prop:= ∀i,(a2B iv i).1≤ρ.int i∧ρ.int i≤(a2B iv i).2
def b1H(fs:List Fact)(ρ:Rho):Prop:= ∀f∈fs,FactOK ρ f
theorem c0f: ∀(iv:Ivs) (i:Nat) (c:Int) (j:Nat),a2B (a2K iv i c) j=a2B iv j∨(j=i∧a2B (a2K iv i c) j=((a2B iv j).1,c))
 | [],i,c,j=>.inl (by simp[a2K])
 |(a,b)::l,0,c,0=>by
  simp only[a2K,a2B,a0H];cases h:decide (b≤c)with
  |true=>exact .inl rfl
  |false=>exact .inr (by simp)
 |(a,b)::l,0,c,j+1=>.inl (by simp[a2K,a2B,a0H])|p::l,n+1,c,0=>.inl (by simp[a2K,a2B,a0H])
 |p::l,n+1,c,j+1=>by
  rcases c0f l n c j with h|⟨h1,h2⟩
  ·exact .inl (by simpa[a2K,a2B,a0H]using h)
  ·exact .inr ⟨by omega,by simpa[a2K,a2B,a0H]using h2⟩
theorem c0e: ∀(iv:Ivs) (i:Nat) (c:Int) (j:Nat),a2B (a0n iv i c) j=a2B iv j∨(j=i∧a2B (a0n iv i c) j=(c,(a2B iv j).2))
 | [],i,c,j=>.inl (by simp[a0n])
 |(a,b)::l,0,c,0=>by
  simp only[a0n,a2B,a0H];cases h:decide (c≤a)with
  |true=>exact .inl rfl
  |false=>exact .inr (by simp)
 |(a,b)::l,0,c,j+1=>.inl (by simp[a0n,a2B,a0H])|p::l,n+1,c,0=>.inl (by simp[a0n,a2B,a0H])
 |p::l,n+1,c,j+1=>by
  rcases c0e l n c j with h|⟨h1,h2⟩
  ·exact .inl (by simpa[a0n,a2B,a0H]using h)
  ·exact .inr ⟨by omega,by simpa[a0n,a2B,a0H]using h2⟩
theorem IvOK.hi{iv:Ivs}{ρ:Rho}(h:IvOK iv ρ){i:Nat}{c:Int}(hc:ρ.int i≤c):IvOK (a2K iv i c) ρ:=by
 intro j;rcases c0f iv i c j with e|⟨rfl,e⟩
 ·rw[e];exact h j
 ·rw[e];exact⟨(h j).1,hc⟩
theorem IvOK.lo{iv:Ivs}{ρ:Rho}(h:IvOK iv ρ){i:Nat}{c:Int}(hc:c≤ρ.int i):IvOK (a0n iv i c) ρ:=by
 intro j;rcases c0e iv i c j with e|⟨rfl,e⟩
 ·rw[e];exact h j
 ·rw[e];exact⟨hc,(h j).2⟩
theorem c7S{ρ:Rho}{k:IntKind}{i j:Nat}{b:Bool}(h:decide (ρ.int i<ρ.int j)=b):FactOK ρ (.bin .lss (.sint k i) (.sint k j) (.bool b)):=by refine⟨_,_,_,rfl,rfl,rfl,by simp,by simp,fun P t w=> ?_⟩;simp[binOp,Op.intCmp,h]
def a2W:Tr→(Nat→Int)→Ivs→List Fact→Ivs×List Fact
 |.leaf,_,iv,fs=>(iv,fs)
 |.cut i c l r,v,iv,fs=>if v i≤c then a2W l v (a2K iv i c) fs else a2W r v (a0n iv i (c+1)) fs
 |.rel k i j l r,v,iv,fs=>if v i<v j then a2W l v iv (.bin .lss (.sint k i) (.sint k j) (.bool true)::fs)else a2W r v iv (.bin .lss (.sint k i) (.sint k j) (.bool false)::fs)
def sv(iv:Ivs)(k:IntKind)(i:Nat):VV:=match a2B iv i with
 |(l,h)=>match decide (l=h)with
  |true=>.int k l|false=>.sint k i
theorem d8g{iv:Ivs}{φ:Phi}(h:IvOK iv φ.ρ)(k:IntKind)(i:Nat):VR φ (sv iv k i) (.int k (φ.ρ.int i)):=by
 unfold sv;have hi:=h i;split;rename_i l h' e;rw[e]at hi;simp only at hi;split
 ·rename_i hd;have:=of_decide_eq_true hd;subst this;simp only[VR]
  congr 1
  omega
 ·simp only[VR]
abbrev d5d:=List (Nat×List Value)
def b3m:d5d→Nat→Option BO
 | [],_=>none
 |(g,c)::l,r=>match Nat.beq g r with
  |true=>some (.cells c)|false=>b3m l r
def d6P(l:d5d):Env:=⟨b3m l,fun _=>(0,0),[],fun _=>none⟩
def TabsOK(l:d5d)(w:World):Prop:= ∀g c,b3m l g=some (.cells c)→ ∃c' e fr,w.heap[g]? =some (.cells c' e fr)∧c'.toList=c
theorem a9p: ∀{l:d5d} {r:Nat} {b:BO},b3m l r=some b→ ∃c,b= .cells c
 | [],_,_,h=>by cases h
 |(g,c)::l,r,b,h=>by
  simp only[b3m]at h;split at h
  ·cases h;exact⟨c,rfl⟩
  ·exact a9p h
theorem TabsOK.lt{l:d5d}{w:World}(h:TabsOK l w){g:Nat}{c:List Value}(k:b3m l g=some (.cells c)):g<w.heap.size:=by obtain⟨c',e,fr,h1,_⟩:=h g c k;exact(Array.getElem?_eq_some_iff.1 h1).1
theorem TabsOK.base{l:d5d}{w:World}(h:TabsOK l w): ∀r b,(d6P l).blk r=some b→ ∃o,w.heap[r]? =some o∧BOR b o:=by intro r b hb;obtain⟨c,rfl⟩:=a9p hb;obtain⟨c',e,fr,h1,h2⟩:=h r c hb;exact⟨_,h1,c',e,fr,rfl,h2⟩
end
end Go.Ev
