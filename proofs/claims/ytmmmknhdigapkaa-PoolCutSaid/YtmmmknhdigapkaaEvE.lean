/- Engine, part D: slicing, operators, equality, conversions, maps: operations that only read. -/
import Derived.Test.YtmmmknhdigapkaaEvC
import Derived.LaidEql
import Derived.ChangeKeysEq
import Derived.Laws.BytesString
import Derived.Lib.Builder
namespace Go.Ev
noncomputable section
def a1g(d:Nat):Option VV→Option Int
 |none=>some d|some (.int _ n)=>some n|some _=>none
def a8Z(e:Nat)(a:Option VA)(len cap:Nat)(lo hi:Option VV):RO:=
 match a1g 0 lo,a1g len hi with
 |some l,some h=>.chk (decide (0≤l)) (.chk (decide (l≤h)) (.chk (decide (h≤cap)) (match a with
  |none=>.val (.slice none (h.toNat-l.toNat) (cap-l.toNat))
  |some a=>.ite (Nat.beq l.toNat cap) (.val .sliceE) (.val (.slice (some (a.add (l.toNat*e))) (h.toNat-l.toNat) (cap-l.toNat))))))
 |_,_=>.bad
def a7a(H:VH):VB→Bool
 |.base _=>true|.sym _=>false
 |.loc i=>match H.locs.get i with
  |some (.cells _ none _ _)=>true|_=>false
def loV:Option VV→VV
 |some x=>x|none=>.int .i64 0
def hiV(H:VH)(s:Nat):Option VV→VV
 |some x=>x
 |none=>match a1f true (.sym s) H.base.tab with
  |some r=>r|none=>.any
def c0s(P:Program)(H:VH)(t:TypeId)(x:VV)(lo hi:Option VV):RO:=
 match P.underlying t,x with
 |some (.slice e),.slice a len cap=>match P.info? e with
  |some i=>a8Z i.size a len cap lo hi|none=>.bad
 |some (.slice e),.sliceE=>match P.info? e,a1g 0 lo,a1g 0 hi with
  |some _,some (.ofNat 0),some (.ofNat 0)=>.val .sliceE|_,_,_=>.bad
 |some (.slice e),.sym s=>match P.info? e with
  |some i=>RO.of (a2f i.size (.sym s) lo hi H.base.tab)|none=>.bad
 |some (.array n e),.ptr (some a)=>match P.info? e,a7a H a.b with
  |some i,true=>a8Z i.size (some a) n n lo hi|_,_=>.bad
 |some .string,.string s=>match a1g 0 lo,a1g s.size hi with
  |some l,some h=>.chk (decide (0≤l)) (.chk (decide (l≤h)) (.chk (decide (h≤s.size)) (.val (.string (s.extract l.toNat h.toNat)))))|_,_=>.bad
 |some .string,.sym s=>RO.of (a1M .cutS [.sym s,loV lo,hiV H s hi] H.base.tab)|_,_=>.bad
theorem a4h[Ext]{w0:World}{φ:Phi}{H:VH}{w:World}(h:HSim w0 φ H w){a:VA}{a':Addr}{s:Nat}(ha:AR φ a a' s)(hf:a7a H a.b=true):s=0:=by
 unfold AR at ha;unfold a7a at hf;cases hb:a.b with
 |base r=>rw[hb]at ha;exact ha.2
 |sym r=>rw[hb]at ha;exact ha.2
 |loc i=>
  rw[hb]at ha hf;simp only at hf;obtain⟨inf,h1,_,rfl⟩:=ha;cases hg:H.locs.get i with
  |none=>rw[hg]at hf;simp at hf
  |some o=>
   rw[hg]at hf;obtain⟨inf',o',h2,_,h3,_⟩:=h.live i o hg;rw[h1]at h2;cases h2;cases o with
   |cells c g ro et=>
    cases g with
    |none=>obtain⟨c',e,fr,_,hc⟩:=h3;exact hc.fixed rfl
    |some z=>simp at hf
   |_=>simp at hf
def OVR(φ:Phi):Option VV→Option Value→Prop
 |none,o=>o=none|some x,o=> ∃v,o=some v∧VR φ x v
theorem run_sliceBound{P:Program}{w:World}(k:IntKind)(i:Int)(y:Nat)(c:BoundsCode)(h0:0≤i)(h1:i≤y):(Instr.sliceBound (.int k i) y c).run P w= .ok i.toNat w:=by simp[Instr.sliceBound,asIntOf,h0,h1]
theorem b0h{φ:Phi}{d:Nat}{o:Option VV}{o':Option Value}(ho:OVR φ o o'){l:Int}(h:a1g d o=some l):(o=none∧o'=none∧l=d)∨ ∃k,o'=some (.int k l):=by
 cases o with
 |none=>simp only[OVR]at ho;simp only[a1g,Option.some.injEq]at h;exact .inl ⟨rfl,ho,h.symm⟩
 |some x=>obtain⟨v,rfl,hv⟩:=ho;cases x<;>simp[a1g]at h;subst h;simp only[VR]at hv;subst hv;exact .inr ⟨_,rfl⟩
theorem a2L{P:Program}{w:World}{φ:Phi}(sl:Bool){len cap:Nat}{lo hi:Option VV}{lo' hi':Option Value}(hlo:OVR φ lo lo')(hhi:OVR φ hi hi'){l h:Int}
  (el:a1g 0 lo=some l) (eh:a1g len hi=some h) (h0:0≤l) (h1:l≤h) (h2:h≤cap):
  (Instr.sliceBounds sl len cap lo' hi' none).run P w= .ok (l.toNat,h.toNat,cap) w:=by
 unfold Instr.sliceBounds;rcases b0h hlo el with⟨_,rfl,hl⟩|⟨k,rfl⟩<;>rcases b0h hhi eh with⟨_,rfl,hh⟩|⟨k',rfl⟩
 ·subst hl;subst hh;simp
 ·subst hl;have:=run_sliceBound (P:=P) (w:=w) k' h cap (if sl then .sliceAcap else .sliceAlen) (by omega) h2;simp only[Sem.run_bind,Sem.run_pure,Result.andThen_ok,this];rfl
 ·subst hh;have:=run_sliceBound (P:=P) (w:=w) k l len .sliceB h0 (by omega);simp[this]
 ·have e1:=run_sliceBound (P:=P) (w:=w) k' h cap (if sl then .sliceAcap else .sliceAlen) (by omega) h2;have e2:=run_sliceBound (P:=P) (w:=w) k l h.toNat .sliceB h0 (by omega);simp only[Sem.run_bind,Sem.run_pure,Result.andThen_ok,e1];simp[e2]
theorem a4u{P:Program}{w:World}(sl:Bool){len cap:Nat}{lo' hi':Option Value}{l h:Int}(hl:(lo'=none∧l=0)∨ ∃k,lo'=some (.int k l))(hh:(hi'=none∧h=len)∨ ∃k,hi'=some (.int k h))
  (h0:0≤l) (h1:l≤h) (h2:h≤cap):(Instr.sliceBounds sl len cap lo' hi' none).run P w= .ok (l.toNat,h.toNat,cap) w:=by
 unfold Instr.sliceBounds;rcases hl with⟨rfl,hl⟩|⟨k,rfl⟩<;>rcases hh with⟨rfl,hh⟩|⟨k',rfl⟩
 ·subst hl;subst hh;simp
 ·subst hl;have:=run_sliceBound (P:=P) (w:=w) k' h cap (if sl then .sliceAcap else .sliceAlen) (by omega) h2;simp only[Sem.run_bind,Sem.run_pure,Result.andThen_ok,this];rfl
 ·subst hh;have:=run_sliceBound (P:=P) (w:=w) k l len .sliceB h0 (by omega);simp[this]
 ·have e1:=run_sliceBound (P:=P) (w:=w) k' h cap (if sl then .sliceAcap else .sliceAlen) (by omega) h2;have e2:=run_sliceBound (P:=P) (w:=w) k l h.toNat .sliceB h0 (by omega);simp only[Sem.run_bind,Sem.run_pure,Result.andThen_ok,e1];simp[e2]
theorem b1s{φ:Phi}{d:Nat}{o:Option VV}{o':Option Value}(ho:OVR φ o o'){l:Int}(h:b1t φ.ρ d o=some l):(o'=none∧l=d)∨ ∃k,o'=some (.int k l):=by
 cases o with
 |none=>simp only[OVR]at ho;simp only[b1t,Option.some.injEq]at h;exact .inl ⟨ho,h.symm⟩
 |some x=>
  obtain⟨v,rfl,hv⟩:=ho;simp only[b1t]at h;split at h
  ·rename_i k n hs;simp only[Option.some.injEq]at h;subst h;exact .inr ⟨k,by rw[a0q hs hv]⟩
  ·cases h
theorem a6B{P:Program}{φ:Phi}{w:World}{e:Nat}{a:Option VA}{len cap:Nat}{lo hi:Option VV}{lo' hi':Option Value}(hlo:OVR φ lo lo')(hhi:OVR φ hi hi')
  (sl:Bool) (v':Value) (hv:VR φ (.slice a len cap) v') (x':Result Value)
  (hrun: ∀(a':Option Addr) (cap':Nat),v'= .slice a' len cap'→ ∀l h,(Instr.sliceBounds sl len cap' lo' hi' none).run P w= .ok (l,h,cap') w→x'= .ok (.slice (if cap'=l then a' else a'.map (·.add (l*e))) (h-l) (cap'-l)) w):
  ROR φ w x' (a8Z e a len cap lo hi):=by
 unfold a8Z;cases hl:a1g 0 lo with
 |none=>trivial
 |some l=>cases hh:a1g len hi with
  |none=>trivial
  |some h=>
   simp only[ROR];intro h0 h1 h2;have h0':=of_decide_eq_true h0;have h1':=of_decide_eq_true h1;have h2':=of_decide_eq_true h2;cases a with
   |none=>
    simp only[VR]at hv;have:=hrun none cap hv _ _ (a2L sl hlo hhi hl hh h0' h1' h2');simp only[ROR];refine⟨.slice none (h.toNat-l.toNat) (cap-l.toNat), ?_,by simp only[VR]⟩;rw[this]
    simp
   |some a=>
    simp only[VR]at hv;obtain⟨a',s,ha,hv⟩:=hv;have hr:=hrun (some a') (cap+s) hv _ _ (a2L sl hlo hhi hl hh h0' h1' (by omega));simp only[ROR];refine⟨fun hc=> ?_,fun hc=> ?_⟩
    ·have hc':l.toNat=cap:=Nat.eq_of_beq_eq_true hc;refine⟨_,hr, ?_⟩;have e0:h.toNat-l.toNat=0:=by omega
     rw[e0];simp only[VR]
     by_cases hx:cap+s=l.toNat
     ·rw[if_pos hx];exact⟨_,_,rfl⟩
     ·rw[if_neg hx];exact⟨_,_,rfl⟩
    ·have hc':l.toNat≠cap:=by intro e';rw[e']at hc;simp at hc
     refine⟨_,hr, ?_⟩;rw[if_neg (by omega)];simp only[VR];refine⟨a'.add (l.toNat*e),s,ha.add _, ?_⟩;simp only[Option.map_some];rw[show cap+s-l.toNat=cap-l.toNat+s by omega]
theorem b5Y[Ext]{P:Program}{w0:World}{φ:Phi}{H:VH}{w:World}(hs:HSim w0 φ H w){t:TypeId}{x:VV}{x':Value}(hx:VR φ x x'){lo hi:Option VV}{lo' hi':Option Value}(hlo:OVR φ lo lo')(hhi:OVR φ hi hi'):
  ROR φ w ((Instr.sliceAt t x' lo' hi' none).run P w) (c0s P H t x lo hi):=by
 unfold c0s;cases hu:P.underlying t with
 |none=>trivial
 |some d=>cases d with
  |slice e=>cases x with
   |slice a len cap=>
    simp only;cases he:P.info? e with
    |none=>trivial
    |some i=>simp only;refine a6B (P:=P) hlo hhi true x' hx _ ?_;intro a' cap' hv l h hb;subst hv;simp[Instr.sliceAt,Instr.slice,run_underlying hu,hb,a0J he,a3f,he]
   |sliceE=>
    simp only;cases he:P.info? e with
    |none=>trivial
    |some i=>cases hl:a1g 0 lo with
     |none=>trivial
     |some l=>cases hh:a1g 0 hi with
      |none=>cases l with
       |ofNat n=>cases n<;>trivial
       |negSucc n=>trivial
      |some h=>cases l with
       |negSucc n=>trivial
       |ofNat n=>cases n with
        |succ n=>trivial
        |zero=>cases h with
         |negSucc n=>trivial
         |ofNat m=>cases m with
          |succ m=>trivial
          |zero=>
           simp only[VR]at hx;obtain⟨a',c,rfl⟩:=hx;have hb:=a2L (P:=P) (w:=w) true (len:=0) (cap:=c) hlo hhi hl hh (by simp) (by simp) (by simp);simp only[ROR];refine⟨.slice (if c=0 then some a' else(some a').map (·.add (0*a3f P e))) 0 c, ?_, ?_⟩
           ·simp[Instr.sliceAt,Instr.slice,run_underlying hu,hb,a0J he]
           ·simp only[VR];split<;>exact⟨_,_,rfl⟩
   |sym s=>
    simp only;cases he:P.info? e with
    |none=>trivial
    |some i=>
     simp only;cases hf:a2f i.size (.sym s) lo hi H.base.tab with
     |none=>trivial
     |some r=>obtain⟨a,l,c,m,n,h1,h2,h3,h4,h5,h6,h7⟩:=hs.env.tab _ (a1P hf);have hx':=a0q h1 hx;subst hx';simp only[RO.of,ROR];have hb:=a4u (P:=P) (w:=w) true (len:=l) (cap:=c) (b1s hlo h2) (b1s hhi h3) h4 h5 h6;exact⟨_,by simp[Instr.sliceAt,Instr.slice,run_underlying hu,hb,a0J he,a3f,he],a3x h7⟩
   |_=>trivial
  |array n e=>cases x with
   |ptr p=>cases p with
    |none=>trivial
    |some a=>
     simp only;cases he:P.info? e with
     |none=>trivial
     |some i=>cases hf:a7a H a.b with
      |false=>trivial
      |true=>simp only;simp only[VR]at hx;obtain⟨a',s,ha,rfl⟩:=hx;have hs0:=a4h hs ha hf;subst hs0;refine a6B (P:=P) (a:=some a) (len:=n) (cap:=n) hlo hhi false (.slice (some a') n n) (by simp only[VR];exact⟨a',0,ha,rfl⟩) _ ?_;intro a'' cap' hv l h hb;simp only[Value.slice.injEq]at hv;obtain⟨rfl,_,rfl⟩:=hv;simp[Instr.sliceAt,run_underlying hu,Instr.sureAddr,hb,a0J he,a3f,he];split<;>rfl
   |_=>trivial
  |string=>cases x with
   |string s=>
    simp only;cases hl:a1g 0 lo with
    |none=>trivial
    |some l=>cases hh:a1g s.size hi with
     |none=>trivial
     |some h=>simp only[ROR];intro h0 h1 h2;have hb:=a2L (P:=P) (w:=w) false hlo hhi hl hh (of_decide_eq_true h0) (of_decide_eq_true h1) (of_decide_eq_true h2);simp only[VR]at hx;subst hx;refine⟨.string (s.extract l.toNat h.toNat), ?_,by simp[VR]⟩;simp[Instr.sliceAt,Instr.slice,run_underlying hu,hb]
   |sym j=>
    simp only;cases hf:a1M .cutS [.sym j,loV lo,hiV H j hi] H.base.tab with
    |none=>trivial
    |some r=>
     obtain⟨vs,v,e1,e2,e3⟩:=hs.env.tab _ (a0y hf);simp only[a3S]at e1;cases es:a0g φ.ρ (.sym j)with
     |none=>rw[es]at e1;cases e1
     |some a=>cases el:a0g φ.ρ (loV lo)with
      |none=>rw[es,el]at e1;cases e1
      |some b=>cases eh:a0g φ.ρ (hiV H j hi)with
       |none=>rw[es,el,eh]at e1;cases e1
       |some c=>
        rw[es,el,eh]at e1;simp only[Option.some.injEq]at e1;subst e1;have ex:=a0q es hx;subst ex;cases x'<;>try (simp[a6W]at e3;done)
        rename_i s;cases b<;>try (simp[a6W]at e3;done)
        rename_i k l;cases c<;>try (simp[a6W]at e3;done)
        rename_i k' h;obtain⟨g0,g1,g2,rfl⟩:=e3
        have hlo':(lo'=none∧l=0)∨ ∃k,lo'=some (.int k l):=by
         cases lo with
         |none=>simp only[OVR]at hlo;simp only[loV,a0g,Option.some.injEq,Value.int.injEq]at el;exact .inl ⟨hlo,el.2.symm⟩
         |some y=>obtain⟨u,rfl,hu'⟩:=hlo;exact .inr ⟨k,by rw[a0q el hu']⟩
        have hhi':(hi'=none∧h=s.size)∨ ∃k,hi'=some (.int k h):=by
         cases hi with
         |none=>
          simp only[OVR]at hhi;simp only[hiV]at eh;cases hL:a1f true (.sym j) H.base.tab with
          |none=>rw[hL]at eh;simp[a0g]at eh
          |some r'=>rw[hL]at eh;simp only at eh;obtain⟨u,n,q1,q2,q3⟩:=hs.env.tab _ (a0d hL);rw[es]at q1;cases q1;obtain⟨s',q4,q5⟩:=q2;cases q4;rw[q3]at eh;simp only[Option.some.injEq,Value.int.injEq]at eh;exact .inl ⟨hhi,by rw[←eh.2,q5]⟩
         |some y=>obtain⟨u,rfl,hu'⟩:=hhi;exact .inr ⟨k',by rw[a0q eh hu']⟩
        have hb:=a4u (P:=P) (w:=w) false (len:=s.size) (cap:=s.size) hlo' hhi' g0 g1 g2;simp only[RO.of,ROR];exact⟨_,by simp[Instr.sliceAt,Instr.slice,run_underlying hu,hb],a3x e2⟩
   |_=>trivial
  |_=>cases x<;>trivial
set_option linter.unusedVariables false in
def c2h(P:Program)(H:VH)(t:TypeId)(x:VV)(lo hi:Option VV)(mx:VV):RO:=.bad
set_option linter.unusedVariables false in
theorem b3U[Ext]{P:Program}{w0:World}{φ:Phi}{H:VH}{w:World}(hs:HSim w0 φ H w){t:TypeId}{x:VV}{x':Value}(hx:VR φ x x'){lo hi:Option VV}{lo' hi':Option Value}(hlo:OVR φ lo lo')(hhi:OVR φ hi hi'){mx:VV}{mx':Value}(hm:VR φ mx mx'):
  ROR φ w ((Instr.sliceAt t x' lo' hi' (some mx')).run P w) (c2h P H t x lo hi mx):=by
 trivial
def b5x:List UInt8→List UInt8→Bool
 | [],[]=>true
 |x::a,y::b=>match Nat.beq x.toNat y.toNat with|true=>b5x a b|false=>false
 |_,_=>false
theorem a9g: ∀(a b:List UInt8),b5x a b=(a==b)
 | [],[]=>rfl
 | [],_::_=>rfl
 |_::_,[]=>rfl
 |x::a,y::b=>by
  simp only[b5x];cases h:Nat.beq x.toNat y.toNat with
  |true=>have e:x=y:=UInt8.toNat_inj.1 (Nat.eq_of_beq_eq_true h);subst e;simp[a9g a b]
  |false=>
   have e:x≠y:=by intro e;subst e;simp at h
   simp[e]
def b3K(a b:ByteArray):Bool:=b5x a.data.toList b.data.toList
theorem a6Z(a b:ByteArray):b3K a b=(a.toList==b.toList):=by unfold b3K;rw[a9g,ByteArray.toList_eq,ByteArray.toList_eq]
def b7q(E:Env):VV→Option (IntKind×Int×Int)
 |.int k n=>some (k,n,n)
 |.sint k i=>match E.ivl i with|(l,h)=>some (k,l,h)
 |_=>none
theorem a4e[Ext]{E:Env}{φ:Phi}{w0:World}(he:EnvOK E φ w0){x:VV}{k:IntKind}{l h:Int}(hi:b7q E x=some (k,l,h)){x':Value}(hx:VR φ x x'):
  ∃n,x'= .int k n∧l≤n∧n≤h∧a0g φ.ρ x=some (.int k n):=by
 cases x with
 |int k' n=>simp only[b7q,Option.some.injEq,Prod.mk.injEq]at hi;obtain⟨rfl,rfl,rfl⟩:=hi;simp only[VR]at hx;exact⟨n,hx,Int.le_refl _,Int.le_refl _,rfl⟩
 |sint k' i=>have:=he.ivl i;simp only[b7q]at hi;simp only[Option.some.injEq,Prod.mk.injEq]at hi;obtain⟨rfl,rfl,rfl⟩:=hi;simp only[VR]at hx;exact⟨_,hx,this.1,this.2,rfl⟩
 |_=>simp[b7q]at hi
def c0p(E:Env)(op:BinOp)(x y:VV):Option Bool:=match a1r op x y E.tab with
 |some (.bool b)=>some b|_=>none
theorem a7c[Ext]{E:Env}{φ:Phi}{w0:World}(he:EnvOK E φ w0){op:BinOp}{x y:VV}{r:Bool}(hf:c0p E op x y=some r){a b:Value}(hx:a0g φ.ρ x=some a)(hy:a0g φ.ρ y=some b):
  ∀(P:Program) (t:TypeId) (w:World),(binOp op t a b).run P w= .ok (.bool r) w:=by
 unfold c0p at hf;split at hf
 ·rename_i b' hb';simp only[Option.some.injEq]at hf;subst hf;obtain⟨a1,b1,v,h1,h2,h3,_,_,h4⟩:=he.tab _ (a0v hb');rw[hx]at h1;cases h1;rw[hy]at h2;cases h2;simp only[a0g,Option.some.injEq]at h3;subst h3;exact h4
 ·cases hf
def a9q(E:Env)(x y:VV):Option Bool:=
 match b7q E x,b7q E y with
 |some (k,l,h),some (k',l',h')=>match kEq k k' with
  |false=>none
  |true=>match decide (h<l')with
   |true=>some true
   |false=>match decide (h'≤l)with
    |true=>some false
    |false=>match sEq x y with
     |true=>some false|false=>c0p E .lss x y
 |_,_=>none
def e1i(E:Env)(x y:VV):Option Bool:=match c0p E .eql x y with
 |some b=>some b
 |none=>match c0p E .lss x y,c0p E .lss y x with
  |some true,_=>some false|_,some true=>some false|some false,some false=>some true|_,_=>none
def a9s(E:Env)(x y:VV):Option Bool:=
 match b7q E x,b7q E y with
 |some (k,l,h),some (k',l',h')=>match kEq k k' with
  |false=>none
  |true=>match decide (h<l')with
   |true=>some false
   |false=>match decide (h'<l)with
    |true=>some false
    |false=>match sEq x y with
     |true=>some true
     |false=>match decide (h≤l'),decide (h'≤l)with
      |true,true=>some true|_,_=>e1i E x y
 |_,_=>none
theorem a1J[Ext]{E:Env}{φ:Phi}{w0:World}(he:EnvOK E φ w0){x y:VV}{r:Bool}(hs:a9q E x y=some r){x' y':Value}(hx:VR φ x x')(hy:VR φ y y'):
  ∃k a b,x'= .int k a∧y'= .int k b∧r=decide (a<b):=by
 unfold a9q at hs;split at hs
 ·rename_i k l h k' l' h' e1 e2;obtain⟨a,rfl,a1,a2,sa⟩:=a4e he e1 hx;obtain⟨b,rfl,b1,b2,sb⟩:=a4e he e2 hy;cases hk:kEq k k' with
  |false=>rw[hk]at hs;cases hs
  |true=>
   rw[hk]at hs;have ek:k=k':=of_decide_eq_true hk;subst ek;refine⟨k,a,b,rfl,rfl, ?_⟩;simp only at hs;split at hs
   ·rename_i h1;have:=of_decide_eq_true h1;simp only[Option.some.injEq]at hs;subst hs;symm;rw[decide_eq_true_eq];omega
   ·split at hs
    ·rename_i h1;have:=of_decide_eq_true h1;simp only[Option.some.injEq]at hs;subst hs;symm;rw[decide_eq_false_iff_not];omega
    ·split at hs
     ·rename_i h1;have:=a4t h1;subst this;rw[sa]at sb;cases sb;simp only[Option.some.injEq]at hs;subst hs;symm;rw[decide_eq_false_iff_not];omega
     ·have:=a7c he hs sa sb default 0 default;simp[binOp,Op.intCmp]at this;exact this.symm
 ·cases hs
theorem c4O[Ext]{E:Env}{φ:Phi}{w0:World}(he:EnvOK E φ w0){x y:VV}{r:Bool}{k:IntKind}{a b:Int}(hf:e1i E x y=some r)(hx:a0g φ.ρ x=some (.int k a))(hy:a0g φ.ρ y=some (.int k b)):r=(a==b):=by
 have lss: ∀{u v:VV} {c d:Int} {q:Bool},c0p E .lss u v=some q→a0g φ.ρ u=some (.int k c)→a0g φ.ρ v=some (.int k d)→q=decide (c<d):=by intro u v c d q h hu hv;have:=a7c he h hu hv default 0 default;simp[binOp,Op.intCmp]at this;exact this.symm
 unfold e1i at hf;split at hf
 ·rename_i c hc;have:=a7c he hc hx hy default 0 default;simp[binOp,Op.intCmp]at this;simp only[Option.some.injEq]at hf;rw[←hf];exact this.symm
 ·split at hf
  ·rename_i h1;have:=of_decide_eq_true (lss h1 hx hy).symm;simp only[Option.some.injEq]at hf;subst hf;symm;rw[beq_eq_false_iff_ne];omega
  ·rename_i h2 _;have:=of_decide_eq_true (lss h2 hy hx).symm;simp only[Option.some.injEq]at hf;subst hf;symm;rw[beq_eq_false_iff_ne];omega
  ·rename_i h1 h2;have:=of_decide_eq_false (lss h1 hx hy).symm;have:=of_decide_eq_false (lss h2 hy hx).symm;simp only[Option.some.injEq]at hf;subst hf;symm;rw[beq_iff_eq];omega
  ·cases hf
theorem a1K[Ext]{E:Env}{φ:Phi}{w0:World}(he:EnvOK E φ w0){x y:VV}{r:Bool}(hs:a9s E x y=some r){x' y':Value}(hx:VR φ x x')(hy:VR φ y y'):
  ∃k a b,x'= .int k a∧y'= .int k b∧r=(a==b):=by
 unfold a9s at hs;split at hs
 ·rename_i k l h k' l' h' e1 e2;obtain⟨a,rfl,a1,a2,sa⟩:=a4e he e1 hx;obtain⟨b,rfl,b1,b2,sb⟩:=a4e he e2 hy;cases hk:kEq k k' with
  |false=>rw[hk]at hs;cases hs
  |true=>
   rw[hk]at hs;have ek:k=k':=of_decide_eq_true hk;subst ek;refine⟨k,a,b,rfl,rfl, ?_⟩;simp only at hs;split at hs
   ·rename_i h1;have:=of_decide_eq_true h1;simp only[Option.some.injEq]at hs;subst hs;symm;rw[beq_eq_false_iff_ne];omega
   ·split at hs
    ·rename_i h1;have:=of_decide_eq_true h1;simp only[Option.some.injEq]at hs;subst hs;symm;rw[beq_eq_false_iff_ne];omega
    ·split at hs
     ·rename_i h1;have:=a4t h1;subst this;rw[sa]at sb;cases sb;simp only[Option.some.injEq]at hs;subst hs;simp
     ·split at hs
      ·rename_i h1 h2;have:=of_decide_eq_true h1;have:=of_decide_eq_true h2;simp only[Option.some.injEq]at hs;subst hs;symm;rw[beq_iff_eq];omega
      ·exact c4O he hs sa sb
 ·cases hs
def d6M(teq:TypeId→VV→VV→Option Bool)(P:Program)(xs ys:List VV):List Field→Option Bool
 | []=>some true
 |f::fs=>match decide (f.name= "_")with
  |true=>none
  |false=>match b0x P f.type xs f.offset,b0x P f.type ys f.offset with
   |some a,some b=>match teq f.type a b with
    |some true=>d6M teq P xs ys fs|r=>r
   |_,_=>none
def d6L(teq:TypeId→VV→VV→Option Bool)(P:Program)(e:TypeId)(sz:Nat)(xs ys:List VV):Nat→Nat→Option Bool
 |0,_=>some true
 |n+1,i=>match b0x P e xs (i*sz),b0x P e ys (i*sz)with
  |some a,some b=>match teq e a b with
   |some true=>d6L teq P e sz xs ys n (i+1)|r=>r
  |_,_=>none
def c5d(a b:VA):Bool:=match a.b,b.b with
 |.base r,.base s=>match Nat.beq r s with|true=>Nat.beq a.o b.o|false=>false
 |.loc r,.loc s=>match Nat.beq r s with|true=>Nat.beq a.o b.o|false=>false
 |.sym r,.sym s=>match Nat.beq r s with|true=>Nat.beq a.o b.o|false=>false
 |_,_=>false
theorem c5c{a b:VA}(h:c5d a b=true):a=b:=by
 obtain⟨ab,ao⟩:=a;obtain⟨bb,bo⟩:=b;unfold c5d at h;split at h
 ·rename_i r s e1 e2;simp only at e1 e2;split at h
  ·rename_i hr;have:r=s:=Nat.eq_of_beq_eq_true hr;have:ao=bo:=Nat.eq_of_beq_eq_true h;subst e1 e2;simp[*]
  ·cases h
 ·rename_i r s e1 e2;simp only at e1 e2;split at h
  ·rename_i hr;have:r=s:=Nat.eq_of_beq_eq_true hr;have:ao=bo:=Nat.eq_of_beq_eq_true h;subst e1 e2;simp[*]
  ·cases h
 ·rename_i r s e1 e2;simp only at e1 e2;split at h
  ·rename_i hr;have:r=s:=Nat.eq_of_beq_eq_true hr;have:ao=bo:=Nat.eq_of_beq_eq_true h;subst e1 e2;simp[*]
  ·cases h
 ·cases h
theorem d8w{φ:Phi}{a:VA}{x y:Addr}{s t:Nat}(h:AR φ a x s)(k:AR φ a y t):x=y:=by
 obtain⟨b,o⟩:=a;cases b with
 |base r=>simp only[AR]at h k;exact h.1.trans k.1.symm
 |sym i=>simp only[AR]at h k;exact h.1.trans k.1.symm
 |loc i=>simp only[AR]at h k;obtain⟨i1,h1,h2,_⟩:=h;obtain⟨i2,k1,k2,_⟩:=k;rw[h1]at k1;cases k1;exact h2.trans k2.symm
def d6a(P:Program)(e:TypeId)(a b:VA):Option Bool:=match c5d a b,P.info? e with
 |true,some _=>some true|_,_=>none
def teq(P:Program)(E:Env):Nat→TypeId→VV→VV→Option Bool
 |0,_,_,_=>none
 |d+1,t,x,y=>
  match P.underlying t with
  |some .bool=>match x with
   |.bool a=>match y with
    |.bool b=>some (a==b)|_=>none
   |_=>none
  |some (.int _)=>match x with
   |.int k a=>match y with
    |.int k' b=>match decide (k=k')with|true=>some (a==b)|false=>none
    |.sint _ _=>a9s E x y|_=>none
   |.sint _ _=>a9s E x y|_=>none
  |some .string=>match x with
   |.string a=>match y with
    |.string b=>some (b3K a b)|_=>none
   |_=>none
  |some (.pointer e)=>match x with
   |.ptr p=>match y with
    |.ptr q=>match p,q with
     |none,none=>some true|none,some _=>some false|some _,none=>some false|some a,some b=>d6a P e a b
    |_=>none
   |_=>none
  |some (.interface _)=>match x with
   |.nilIface=>match y with
    |.nilIface=>some true|.iface _ _=>some false|_=>none
   |.iface tx vx=>match y with
    |.nilIface=>some false
    |.iface ty vy=>match Nat.beq tx ty with
     |false=>some false
     |true=>match P.info? tx with
      |some i=>match i.comparable with
       |true=>teq P E d tx vx vy|false=>none
      |none=>none
    |_=>none
   |_=>none
  |some (.struct fs)=>match x with
   |.agg xs=>match y with
    |.agg ys=>match P.stoodInHeld t with
     |true=>none|false=>d6M (teq P E d) P xs ys fs.toList
    |_=>none
   |_=>none
  |some (.array n e)=>match x with
   |.agg xs=>match y with
    |.agg ys=>match P.info? e with
     |some i=>d6L (teq P E d) P e i.size xs ys n 0|none=>none
    |_=>none
   |_=>none
  |some (.slice _)=>match x with
   |.slice p _ _=>match y with
    |.slice q _ _=>match p,q with
     |none,none=>some true|none,some _=>some false|some _,none=>some false|some _,some _=>none
    |.sliceE=>match p with
     |none=>some false|some _=>none
    |_=>none
   |.sliceE=>match y with
    |.slice none _ _=>some false|_=>none
   |_=>none
  |some (.map _ _)=>match x with
   |.map p=>match y with
    |.map q=>match p,q with
     |none,none=>some true|none,some _=>some false|some _,none=>some false|some _,some _=>none
    |_=>none
   |_=>none
  |some (.func _ _ _)=>match x with
   |.nilFunc=>match y with
    |.nilFunc=>some true|.func _ _ _=>some false|_=>none
   |.func _ _ _=>match y with
    |.nilFunc=>some false|_=>none
   |_=>none
  |_=>none
def TEq(P:Program)(φ:Phi)(d:Nat)(f:TypeId→VV→VV→Option Bool):Prop:=
 ∀(t:TypeId) (x y:VV) (r:Bool),f t x y=some r→ ∀(x' y':Value) (w:World),VR φ x x'→VR φ y y'→(Op.equalIn d t x' y').run P w= .ok r w
theorem c3b{P:Program}{φ:Phi}{d:Nat}{f:TypeId→VV→VV→Option Bool}(hf:TEq P φ d f){xs ys:List VV}{xs' ys':List Value}(hx:VRs φ xs xs')(hy:VRs φ ys ys')(w:World):
  ∀(fs:List Field) (r:Bool),d6M f P xs ys fs=some r→(Op.eqFields d ⟨xs'⟩ ⟨ys'⟩ fs).run P w= .ok r w:=by
 intro fs
 induction fs with
 |nil=>intro r h;simp only[d6M,Option.some.injEq]at h;subst h;rfl
 |cons fd fs ih=>
  intro r h;simp only[d6M]at h
  cases hn:decide (fd.name= "_")with
  |true=>rw[hn]at h;simp at h
  |false=>
   rw[hn]at h;simp only at h
   have hn':fd.name≠ "_":=of_decide_eq_false hn
   cases ha:b0x P fd.type xs fd.offset with
   |none=>rw[ha]at h;simp at h
   |some a=>cases hb:b0x P fd.type ys fd.offset with
    |none=>rw[ha,hb]at h;simp at h
    |some b=>
     rw[ha,hb]at h;simp only at h;cases he:f fd.type a b with
     |none=>rw[he]at h;simp at h
     |some q=>
      rw[he]at h;obtain⟨a',r1,v1⟩:=a2b (w:=w) hx ha;obtain⟨b',r2,v2⟩:=a2b (w:=w) hy hb;have r3:=hf _ _ _ _ he a' b' w v1 v2;simp only[Op.eqFields,hn',ne_eq,not_false_eq_true,if_true,Sem.run_bind,r1,Result.andThen_ok,r2,r3];cases q
      ·simp only[Option.some.injEq]at h;subst h;simp
      ·simp only at h;simp[ih r h]
theorem c3a{P:Program}{φ:Phi}{d:Nat}{f:TypeId→VV→VV→Option Bool}(hf:TEq P φ d f){e:TypeId}{xs ys:List VV}{xs' ys':List Value}(hx:VRs φ xs xs')(hy:VRs φ ys ys')(w:World)(sz:Nat):
  ∀(n i:Nat) (r:Bool),d6L f P e sz xs ys n i=some r→(Op.eqItems d e sz ⟨xs'⟩ ⟨ys'⟩ (List.range' i n)).run P w= .ok r w:=by
 intro n
 induction n with
 |zero=>intro i r h;simp only[d6L,Option.some.injEq]at h;subst h;rfl
 |succ n ih=>
  intro i r h;simp only[d6L]at h;cases ha:b0x P e xs (i*sz)with
  |none=>rw[ha]at h;simp at h
  |some a=>cases hb:b0x P e ys (i*sz)with
   |none=>rw[ha,hb]at h;simp at h
   |some b=>
    rw[ha,hb]at h;simp only at h;cases he:f e a b with
    |none=>rw[he]at h;simp at h
    |some q=>
     rw[he]at h;obtain⟨a',r1,v1⟩:=a2b (w:=w) hx ha;obtain⟨b',r2,v2⟩:=a2b (w:=w) hy hb;have r3:=hf _ _ _ _ he a' b' w v1 v2;simp only[List.range'_succ,Op.eqItems,Sem.run_bind,r1,Result.andThen_ok,r2,r3];cases q
     ·simp only[Option.some.injEq]at h;subst h;simp
     ·simp only at h;simp[ih (i+1) r h]
set_option maxHeartbeats 2000000 in
theorem c5L[Ext]{P:Program}{E:Env}{w0:World}{φ:Phi}(he:EnvOK E φ w0): ∀(d k:Nat),TEq P φ (d+k) (teq P E d):=by
 intro d
 induction d with
 |zero=>intro k t x y r h;simp[teq]at h
 |succ d ih=>
  intro k t x y r h x' y' w hx hy;rw[show d+1+k=(d+k)+1 by omega];unfold teq at h;cases hu:P.underlying t with
  |none=>rw[hu]at h;simp at h
  |some dd=>
   rw[hu]at h;cases dd with
   |bool=>
    cases x with
    |bool a=>cases y with
     |bool b=>simp at h;simp only[VR]at hx hy;subst hx;subst hy;subst h;simp[Op.equalIn,run_underlying hu]
     |_=>simp at h
    |_=>simp at h
   |int k0=>
    cases x with
    |int k1 a=>cases y with
     |int k2 b=>
      simp only at h;cases hk:decide (k1=k2)with
      |false=>rw[hk]at h;simp at h
      |true=>rw[hk]at h;have hk':=of_decide_eq_true hk;simp only[VR]at hx hy;subst hx;subst hy;subst hk';simp only[Option.some.injEq]at h;subst h;simp[Op.equalIn,run_underlying hu]
     |sint k2 j=>obtain⟨k,a,b,rfl,rfl,rfl⟩:=a1K he h hx hy;simp[Op.equalIn,run_underlying hu]
     |_=>simp at h
    |sint k1 j=>obtain⟨k,a,b,rfl,rfl,rfl⟩:=a1K he h hx hy;simp[Op.equalIn,run_underlying hu]
    |_=>simp at h
   |string=>
    cases x with
    |string a=>cases y with
     |string b=>simp only[Option.some.injEq]at h;simp only[VR]at hx hy;subst hx;subst hy;subst h;rw[a6Z];exact run_equalIn_string w _ t _ _ hu
     |_=>simp at h
    |_=>simp at h
   |pointer e=>
    cases x with
    |ptr p=>cases y with
     |ptr q=>
      cases p with
      |none=>cases q with
       |none=>simp only[Option.some.injEq]at h;subst h;simp only[VR]at hx hy;subst hx;subst hy;simp[Op.equalIn,run_underlying hu]
       |some b=>simp only[Option.some.injEq]at h;subst h;simp only[VR]at hx hy;obtain⟨a,s,_,rfl⟩:=hy;subst hx;simp[Op.equalIn,run_underlying hu]
      |some a=>cases q with
       |none=>simp only[Option.some.injEq]at h;subst h;simp only[VR]at hx hy;obtain⟨a,s,_,rfl⟩:=hx;subst hy;simp[Op.equalIn,run_underlying hu]
       |some b=>
        simp only[d6a]at h;split at h
        ·rename_i j hv hj;simp only[Option.some.injEq]at h;subst h;have:=c5c hv;subst this;simp only[VR]at hx hy;obtain⟨a1,s1,h1,rfl⟩:=hx;obtain⟨a2,s2,h2,rfl⟩:=hy;have:=d8w h1 h2;subst this;simp[Op.equalIn,run_underlying hu,sizeOf,typeInfo,hj,run_sameAddr_same]
        ·cases h
     |_=>simp at h
    |_=>simp at h
   |interface ms=>
    cases x with
    |nilIface=>cases y with
     |nilIface=>simp at h;subst h;simp only[VR]at hx hy;subst hx;subst hy;simp[Op.equalIn,run_underlying hu]
     |iface ty vy=>simp at h;subst h;simp only[VR]at hx hy;obtain⟨v,_,rfl⟩:=hy;subst hx;simp[Op.equalIn,run_underlying hu]
     |_=>simp at h
    |iface tx vx=>cases y with
     |nilIface=>simp at h;subst h;simp only[VR]at hx hy;obtain⟨v,_,rfl⟩:=hx;subst hy;simp[Op.equalIn,run_underlying hu]
     |iface ty vy=>
      simp only at h;simp only[VR]at hx hy;obtain⟨vx',h1,rfl⟩:=hx;obtain⟨vy',h2,rfl⟩:=hy;cases ht:Nat.beq tx ty with
      |false=>
       rw[ht]at h;simp only[Option.some.injEq]at h;subst h;have e:tx≠ty:=by intro e;subst e;simp at ht
       simp[Op.equalIn,run_underlying hu,e]
      |true=>
       rw[ht]at h;have e:tx=ty:=Nat.eq_of_beq_eq_true ht;subst e;simp only at h;cases hi:P.info? tx with
       |none=>rw[hi]at h;simp at h
       |some i=>
        rw[hi]at h;simp only at h;cases hc:i.comparable with
        |false=>rw[hc]at h;simp at h
        |true=>rw[hc]at h;simp only at h;have:=ih k _ _ _ _ h vx' vy' w h1 h2;simp[Op.equalIn,run_underlying hu,typeInfo,hi,hc,this]
     |_=>simp at h
    |_=>simp at h
   |struct fs=>
    cases x with
    |agg xs=>cases y with
     |agg ys=>
      simp only at h;cases hs:P.stoodInHeld t with
      |true=>rw[hs]at h;simp at h
      |false=>
       rw[hs]at h;simp only at h;simp only[VR]at hx hy;obtain⟨xs',hxs,rfl⟩:=hx;obtain⟨ys',hys,rfl⟩:=hy;have hfo:P.fieldsOf t=fs:=by simp[Program.fieldsOf,hu]
       rw[run_equalIn_struct w _ t _ _ (by rw[hfo];exact hu) hs,hfo];exact c3b (ih k) hxs hys w _ _ h
     |_=>simp at h
    |_=>simp at h
   |array n e=>
    cases x with
    |agg xs=>cases y with
     |agg ys=>
      simp only at h;cases hi:P.info? e with
      |none=>rw[hi]at h;simp at h
      |some i=>
       rw[hi]at h;simp only at h;simp only[VR]at hx hy;obtain⟨xs',hxs,rfl⟩:=hx;obtain⟨ys',hys,rfl⟩:=hy;rw[run_equalIn_array w _ _ _ hu hi,List.range_eq_range'];have hc:P.cellsOf e=i.size:=by simp[Program.cellsOf,hi]
       rw[hc];exact c3a (ih k) hxs hys w _ _ _ _ h
     |_=>simp at h
    |_=>simp at h
   |slice e=>
    cases x with
    |slice p l c=>cases y with
     |slice q l' c'=>
      cases p<;>cases q<;>simp at h
      all_goals
       subst h;simp only[VR]at hx hy
      ·subst hx;subst hy;simp[Op.equalIn,run_underlying hu]
      ·obtain⟨a,s,_,rfl⟩:=hy;subst hx;simp[Op.equalIn,run_underlying hu]
      ·obtain⟨a,s,_,rfl⟩:=hx;subst hy;simp[Op.equalIn,run_underlying hu]
     |sliceE=>cases p<;>simp at h;subst h;simp only[VR]at hx hy;obtain⟨a,c',rfl⟩:=hy;subst hx;simp[Op.equalIn,run_underlying hu]
     |_=>simp at h
    |sliceE=>cases y with
     |slice q l' c'=>cases q<;>simp at h;subst h;simp only[VR]at hx hy;obtain⟨a,c,rfl⟩:=hx;subst hy;simp[Op.equalIn,run_underlying hu]
     |_=>simp at h
    |_=>simp at h
   |map ky e=>
    cases x with
    |map p=>cases y with
     |map q=>
      cases p<;>cases q<;>simp at h
      all_goals
       subst h;simp only[VR]at hx hy
      ·subst hx;subst hy;simp[Op.equalIn,run_underlying hu]
      ·obtain⟨a,_,rfl⟩:=hy;subst hx;simp[Op.equalIn,run_underlying hu]
      ·obtain⟨a,_,rfl⟩:=hx;subst hy;simp[Op.equalIn,run_underlying hu]
     |_=>simp at h
    |_=>simp at h
   |func ps rs v=>
    cases x with
    |nilFunc=>cases y with
     |nilFunc=>simp at h;subst h;simp only[VR]at hx hy;subst hx;subst hy;simp[Op.equalIn,run_underlying hu]
     |func fn f c=>simp at h;subst h;simp only[VR]at hx hy;obtain⟨_,_,_,_,_,rfl⟩:=hy;subst hx;simp[Op.equalIn,run_underlying hu]
     |_=>simp at h
    |func fn f c=>cases y with
     |nilFunc=>simp at h;subst h;simp only[VR]at hx hy;obtain⟨_,_,_,_,_,rfl⟩:=hx;subst hy;simp[Op.equalIn,run_underlying hu]
     |_=>simp at h
    |_=>simp at h
   |_=>simp at h
def isC:Operand→Bool
 |.const _=>true|_=>false
def b1U:VV→Bool
 |.any|.one|.sym _|.cat _|.tsl _ _|.tlen _=>true|_=>false
def eqG(P:Program)(t:TypeId)(cx cy:Bool)(x y:VV):Bool:=
 match b1U x,b1U y with
 |false,false=>match x,y with
  |.nilIface,.nilIface=>cx||cy
  |.agg _,.agg _=> !(P.eqGuardType P.depth t)|_,_=>true
 |_,_=>false
def c7c(op:BinOp)(k:IntKind)(a:Int)(k':IntKind)(b:Int):RO:=
 match op with
 |.shl=>.chk (decide (0≤b)) (.val (.int k (k.wrap (a*2^(min b.toNat k.bits)))))|.shr=>.chk (decide (0≤b)) (.val (.int k (a.fdiv (2^(min b.toNat k.bits)))))
 |op=>match kEq k k' with
  |false=>.bad
  |true=>match op with
   |.add=>.val (.int k (k.wrap (a+b)))|.sub=>.val (.int k (k.wrap (a-b)))|.mul=>.val (.int k (k.wrap (a*b)))|.quo=>.chk (!(decide (b=0))) (.val (.int k (k.wrap (a.tdiv b))))|.rem=>.chk (!(decide (b=0))) (.val (.int k (a.tmod b)))|.and=>.val (.int k (k.wrap (BitVec.ofInt k.bits a&&&BitVec.ofInt k.bits b).toNat))|.or=>.val (.int k (k.wrap (BitVec.ofInt k.bits a|||BitVec.ofInt k.bits b).toNat))|.xor=>.val (.int k (k.wrap (BitVec.ofInt k.bits a^^^BitVec.ofInt k.bits b).toNat))|.andNot=>.val (.int k (k.wrap (BitVec.ofInt k.bits a&&& ~~~(BitVec.ofInt k.bits b)).toNat))|.eql=>.val (.bool (a==b))|.neq=>.val (.bool (a !=b))|.lss=>.val (.bool (decide (a<b)))|.leq=>.val (.bool (decide (a≤b)))|.gtr=>.val (.bool (decide (a>b)))|.geq=>.val (.bool (decide (a≥b)))|_=>.bad
def b4M(op:BinOp)(a b:ByteArray):RO:=
 match op with
 |.add=>.chk (decide (((a.size+b.size:Nat):Int)≤9223372036854775807)) (.val (.string (a++b)))|.eql=>.val (.bool (b3K a b))|.neq=>.val (.bool (!(b3K a b)))|.lss=>.val (.bool (Op.bytesLess a.toList b.toList))|.leq=>.val (.bool (Op.bytesLess a.toList b.toList||b3K a b))|.gtr=>.val (.bool (!(Op.bytesLess a.toList b.toList||b3K a b)))|.geq=>.val (.bool (!(Op.bytesLess a.toList b.toList)))|_=>.bad
def d5V(P:Program)(H:VH)(op:BinOp)(t:TypeId)(cx cy:Bool)(x y:VV):RO:=
 match op with
 |.eql=>match eqG P t cx cy x y,teq P H.base 50 t x y with
  |true,some r=>.val (.bool r)|_,_=>.bad
 |.neq=>match eqG P t cx cy x y,teq P H.base 50 t x y with
  |true,some r=>.val (.bool (!r))|_,_=>.bad
 |_=>.bad
def c4F(E:Env)(op:BinOp)(x y:VV):RO:=
 match(match op with
  |.lss=>a9q E x y|.gtr=>a9q E y x
  |.leq=>match a9q E y x with|some b=>some (!b)|none=>none
  |.geq=>match a9q E x y with|some b=>some (!b)|none=>none
  |.eql=>a9s E x y
  |.neq=>match a9s E x y with|some b=>some (!b)|none=>none
  |_=>none)with
 |some b=>.val (.bool b)|none=>RO.of (a1r op x y E.tab)
def pcs(E:Env):VV→Option (List VV)
 |.cat ps=>some ps|.string s=>some [.string s]
 |.sym i=>match a1f true (.sym i) E.tab with
  |some _=>some [.sym i]|none=>none
 |_=>none
def szP(E:Env):VV→Option Int
 |.string s=>some s.size
 |.sym i=>match a1f true (.sym i) E.tab with
  |some (.sint _ n)=>some (E.ivl n).2|some (.int _ n)=>some n|_=>none
 |_=>none
def szT(E:Env):List VV→Option Int
 | []=>some 0
 |p::l=>match szP E p,szT E l with
  |some a,some b=>some (a+b)|_,_=>none
def d5a:List VV→List VV→List VV
 | [],b=>b
 | [p],b=>match p with
  |.string s=>match b with
   |.string t::l=>.string (s++t)::l|b=>.string s::b
  |p=>p::b
 |p::q::l,b=>p::d5a (q::l) b
def b4L(E:Env)(op:BinOp)(x y:VV):RO:=match pcs E x,pcs E y with
 |some a,some b=>match op with
  |.add=>match szT E a,szT E b with
   |some m,some n=>match decide (m+n≤9223372036854775807)with
    |true=>.val (.cat (d5a a b))|false=>.bad
   |_,_=>.bad
  |.eql=>match c5g a b with
   |true=>.val (.bool true)|false=>.bad
  |.neq=>match c5g a b with
   |true=>.val (.bool false)|false=>.bad
  |_=>.bad
 |_,_=>.bad
def c2A(r t:RO):RO:=match r with
 |.bad=>t|r=>r
def b4N(P:Program)(H:VH)(op:BinOp)(t:TypeId)(cx cy:Bool)(x y:VV):RO:=
 match x with
 |.int k a=>match y with
  |.int k' b=>c7c op k a k' b|.sint _ _=>c4F H.base op x y|_=>.bad
 |.sint _ _=>c4F H.base op x y|.sym _=>c2A (c4F H.base op x y) (b4L H.base op x y)
 |.string a=>match y with
  |.string b=>b4M op a b|.sym _=>c2A (c4F H.base op x y) (b4L H.base op x y)|.cat _=>b4L H.base op x y|_=>.bad
 |.cat _=>b4L H.base op x y|.tsl _ _=>.bad|.tlen _=>.bad|x=>d5V P H op t cx cy x y
def c4L(P:Program)(H:VH)(op:BinOp)(t:TypeId)(cx cy:Bool)(x y:VV):RO:=match x with
 |.bool a=>match y with
  |.sym u=>match a1M .isB [.sym u] H.base.tab with
   |some (.bool b)=>b4N P H op t cx cy (.bool a) (.bool b)|_=>.bad
  |y=>b4N P H op t cx cy (.bool a) y
 |x=>b4N P H op t cx cy x y
def a2m(P:Program)(op:BinOp)(t:TypeId)(x y:Operand)(a b:Value)(w:World):Result Value:=(do eqGuard op t x y a b;binOp op t a b:Sem Value).run P w
theorem a0L{P:Program}{w:World}(op:BinOp)(t:TypeId)(x y:Operand)(a b:Value)(h1: ∀cs,a≠ .agg cs)(h2:a≠ .nilIface):(eqGuard op t x y a b).run P w= .ok () w:=by unfold eqGuard;cases op<;>simp<;>(split<;>simp_all)
theorem a4j[Ext]{P:Program}{w0:World}{φ:Phi}{H:VH}{w:World}(h:HSim w0 φ H w)(op:BinOp)(t:TypeId)(ox oy:Operand){x y:VV}{x' y':Value}(hx:VR φ x x')(hy:VR φ y y'):
  ROR φ w (a2m P op t ox oy x' y' w) (c4F H.base op x y):=by
 have int: ∀(k:IntKind) (a b:Int) (v:Value),(binOp op t (.int k a) (.int k b)).run P w= .ok v w→a2m P op t ox oy (.int k a) (.int k b) w= .ok v w:=by intro k a b v hv;have hg:=a0L (P:=P) (w:=w) op t ox oy (.int k a) (.int k b) (by simp) (by simp);simp[a2m,hg,hv]
 unfold c4F;split
 ·rename_i b hb;simp only[ROR];refine⟨.bool b, ?_,by simp[VR]⟩;split at hb
  ·obtain⟨k,u,v,rfl,rfl,rfl⟩:=a1J h.env hb hx hy;exact int k u v _ (by simp[binOp,Op.intCmp])
  ·obtain⟨k,u,v,rfl,rfl,rfl⟩:=a1J h.env hb hy hx;exact int k v u _ (by simp[binOp,Op.intCmp])
  ·split at hb
   ·rename_i c hc;obtain⟨k,u,v,rfl,rfl,rfl⟩:=a1J h.env hc hy hx;simp only[Option.some.injEq]at hb;subst hb;refine int k v u _ ?_;simp only[binOp,Op.intCmp];have:(decide (v≤u))= !decide (u<v):=by rw[←decide_not];congr 1;rw[Int.not_lt]
    simp[this]
   ·cases hb
  ·split at hb
   ·rename_i c hc;obtain⟨k,u,v,rfl,rfl,rfl⟩:=a1J h.env hc hx hy;simp only[Option.some.injEq]at hb;subst hb;refine int k u v _ ?_;simp only[binOp,Op.intCmp];have:(decide (u≥v))= !decide (u<v):=by rw[←decide_not];congr 1;rw[Int.not_lt]
    simp[this]
   ·cases hb
  ·obtain⟨k,u,v,rfl,rfl,rfl⟩:=a1K h.env hb hx hy;exact int k u v _ (by simp[binOp,Op.intCmp])
  ·split at hb
   ·rename_i c hc;obtain⟨k,u,v,rfl,rfl,rfl⟩:=a1K h.env hc hx hy;simp only[Option.some.injEq]at hb;subst hb;refine int k u v _ ?_;simp[binOp,Op.intCmp,bne]
   ·cases hb
  ·cases hb
 ·refine c8K fun v hv=> ?_;obtain⟨a,b,u,h1,h2,h3,h4,h5,h6⟩:=h.env.tab _ (a0v hv);have e1:=a0q h1 hx;have e2:=a0q h2 hy;subst e1 e2;have hg:=a0L (P:=P) (w:=w) op t ox oy x' y' h4 h5;exact⟨u,by simp[a2m,hg,h6],a3x h3⟩
theorem b6Y{ρ:Rho}: ∀{a b:List VV} {s t:ByteArray},a1X ρ a=some s→a1X ρ b=some t→a1X ρ (a++b)=some (s++t)
 | [],b,s,t,h1,h2=>by simp only[a1X,Option.some.injEq]at h1;subst h1;simpa using h2
 |p::a,b,s,t,h1,h2=>by
  simp only[a1X]at h1;split at h1
  ·rename_i u v e1 e2;simp only[Option.some.injEq]at h1;subst h1;simp only[List.cons_append,a1X,e1,b6Y e2 h2,ByteArray.append_assoc]
  ·cases h1
theorem a7x{ρ:Rho}{p:VV}{s:ByteArray}(h:a5V ρ p=some s):a1X ρ [p]=some s:=by simp only[a1X,h,ByteArray.append_empty]
theorem b8u{ρ:Rho}: ∀{a b:List VV} {s t:ByteArray},a1X ρ a=some s→a1X ρ b=some t→a1X ρ (d5a a b)=some (s++t)
 | [],b,s,t,h1,h2=>by simp only[a1X,Option.some.injEq]at h1;subst h1;simpa[d5a]using h2
 | [p],b,s,t,h1,h2=>by
  have:=b6Y h1 h2;unfold d5a;split
  ·rename_i u;split
   ·rename_i v l;simp only[List.cons_append,List.nil_append,a1X,a5V]at this ⊢;split at this
    ·rename_i x y e1 e2;cases e1;split at e2
     ·rename_i x' y' e3 e4;cases e3;simp only[Option.some.injEq]at e2;subst e2;rw[e4];simp only[Option.some.injEq]at this ⊢;rw[←this,ByteArray.append_assoc]
     ·cases e2
    ·cases this
   ·exact this
  ·exact this
 |p::q::l,b,s,t,h1,h2=>by
  simp only[a1X]at h1;split at h1
  ·rename_i u v e1 e2;simp only[Option.some.injEq]at h1;subst h1;have:=b8u (a:=q::l) (by simpa only[a1X]using e2) h2;show a1X ρ (p::d5a (q::l) b)=_;simp only[a1X,e1,this,ByteArray.append_assoc]
  ·cases h1
theorem b7D[Ext]{E:Env}{φ:Phi}{w0:World}(he:EnvOK E φ w0){x:VV}{ps:List VV}(h:pcs E x=some ps){v:Value}(hv:VR φ x v): ∃s,a1X φ.ρ ps=some s∧v= .string s:=by
 unfold pcs at h;split at h
 ·simp only[Option.some.injEq]at h;subst h;simpa only[VR]using hv
 ·simp only[Option.some.injEq]at h;subst h;simp only[VR]at hv;exact⟨_,a7x rfl,hv⟩
 ·rename_i i;split at h
  ·rename_i r hr;simp only[Option.some.injEq]at h;subst h;obtain⟨u,n,h1,⟨s,rfl,h2⟩,h3⟩:=he.tab _ (a0d hr);simp only[a0g,Option.some.injEq]at h1;simp only[VR]at hv;refine⟨s,a7x ?_,by rw[hv,h1]⟩;simp only[a5V,h1]
  ·cases h
 ·cases h
theorem c5N[Ext]{E:Env}{φ:Phi}{w0:World}(he:EnvOK E φ w0){p:VV}{m:Int}(h:szP E p=some m){s:ByteArray}(hs:a5V φ.ρ p=some s):(s.size:Int)≤m:=by
 unfold szP at h;split at h
 ·simp only[Option.some.injEq]at h;subst h;simp only[a5V,Option.some.injEq]at hs;subst hs;exact Int.le_refl _
 ·rename_i i;split at h
  ·rename_i k n hr;simp only[Option.some.injEq]at h;subst h;obtain⟨u,q,h1,⟨t,rfl,h2⟩,h3⟩:=he.tab _ (a0d hr);simp only[a0g,Option.some.injEq]at h1 h3;simp only[a5V,h1,Option.some.injEq]at hs;subst hs;have:=(he.ivl n).2;simp only[Value.int.injEq]at h3;rw[h3.2,h2]at this;exact this
  ·rename_i k n hr;simp only[Option.some.injEq]at h;subst h;obtain⟨u,q,h1,⟨t,rfl,h2⟩,h3⟩:=he.tab _ (a0d hr);simp only[a0g,Option.some.injEq]at h1 h3;simp only[a5V,h1,Option.some.injEq]at hs;subst hs;simp only[Value.int.injEq]at h3;rw[h3.2,h2];exact Int.le_refl _
  ·cases h
 ·cases h
theorem b1l[Ext]{E:Env}{φ:Phi}{w0:World}(he:EnvOK E φ w0): ∀{ps:List VV} {m:Int},szT E ps=some m→ ∀{s:ByteArray},a1X φ.ρ ps=some s→(s.size:Int)≤m
 | [],m,h,s,hs=>by
  simp only[szT,Option.some.injEq]at h;subst h;simp only[a1X,Option.some.injEq]at hs;subst hs
  simp
 |p::l,m,h,s,hs=>by
  simp only[szT]at h;split at h
  ·rename_i a b h1 h2;simp only[Option.some.injEq]at h;subst h;simp only[a1X]at hs;split at hs
   ·rename_i u v e1 e2;simp only[Option.some.injEq]at hs;subst hs;have g1:=c5N he h1 e1;have g2:=b1l he h2 e2;rw[ByteArray.size_append];omega
   ·cases hs
  ·cases h
theorem b8S{P:Program}{φ:Phi}{w:World}(op:BinOp)(t:TypeId)(x y:Operand)(k k':IntKind)(a b:Int):
  ROR φ w (a2m P op t x y (.int k a) (.int k' b) w) (c7c op k a k' b):=by
 have hg:=a0L (P:=P) (w:=w) op t x y (.int k a) (.int k' b) (by simp) (by simp);have hr:a2m P op t x y (.int k a) (.int k' b) w=(binOp op t (.int k a) (.int k' b)).run P w:=by simp[a2m,hg]
 rw[hr];unfold c7c;cases op
 case shl=>simp only[ROR];intro h;have h':=of_decide_eq_true h;refine⟨.int k (k.wrap (a*2^(min b.toNat k.bits))), ?_,by simp[VR]⟩;rw[binOp_shl];simp[Op.shift,show¬b<0 by omega]
 case shr=>simp only[ROR];intro h;have h':=of_decide_eq_true h;refine⟨.int k (a.fdiv (2^(min b.toNat k.bits))), ?_,by simp[VR]⟩;rw[binOp_shr];simp[Op.shift,show¬b<0 by omega]
 all_goals
  simp only;cases hk:kEq k k' with
  |false=>trivial
  |true=>
   have e:k=k':=of_decide_eq_true hk;subst e;simp only
   first
    |trivial
    |(simp only[ROR];refine⟨_,rfl, ?_⟩;simp[VR];done)
    |(simp only[ROR];intro h;have h':b≠0:=by simpa using h
      first
       |(refine⟨.int k (k.wrap (a.tdiv b)), ?_,by simp[VR]⟩;simp[binOp_quo,Op.intDiv,h'];done)
       |(refine⟨.int k (a.tmod b), ?_,by simp[VR]⟩;simp[binOp_rem,Op.intDiv,h'];done))
    |(simp only[ROR];refine⟨_,by simp[binOp,Op.intArith,Op.intBits,Op.intCmp];rfl, ?_⟩;simp[VR])
theorem b0T{P:Program}{φ:Phi}{w:World}(op:BinOp)(t:TypeId)(x y:Operand)(a b:ByteArray):
  ROR φ w (a2m P op t x y (.string a) (.string b) w) (b4M op a b):=by
 have hg:=a0L (P:=P) (w:=w) op t x y (.string a) (.string b) (by simp) (by simp);have hr:a2m P op t x y (.string a) (.string b) w=(Op.stringOp op a b).run P w:=by cases op<;>simp[a2m,hg,binOp]
 rw[hr];unfold b4M
 cases op<;>first
  |trivial
  |(simp only[ROR];refine⟨_,rfl, ?_⟩;simp[VR,a6Z];done)
  |(simp only[ROR];intro h;have h':=of_decide_eq_true h
    refine⟨.string (a++b), ?_,by simp[VR]⟩;simp only[Op.stringOp,IntKind.max_i64];rw[if_neg (by omega)]
    rfl)
theorem c7g{P:Program}{φ:Phi}{w:World}{op:BinOp}{t:TypeId}{x y:VV}{x' y':Value}(hx:VR φ x x')(hy:VR φ y y')(ox oy:Operand)(h:eqG P t (isC ox) (isC oy) x y=true)(hni: ∀k n,x≠ .int k n)(hns: ∀s,x≠ .string s):
  (eqGuard op t ox oy x' y').run P w= .ok () w:=by
 cases x with
 |agg cs=>
  simp only[VR]at hx;obtain⟨cs',_,rfl⟩:=hx;cases y with
  |agg ds=>simp only[VR]at hy;obtain⟨ds',_,rfl⟩:=hy;simp only[eqG,b1U,Bool.not_eq_true']at h;exact run_eqGuard_agg w op t ox oy _ _ h
  |ptr p=>cases p<;>simp only[VR]at hy<;>(first|subst hy|obtain⟨_,_,_,rfl⟩:=hy)<;>cases op<;>simp[eqGuard]
  |slice p l c=>cases p<;>simp only[VR]at hy<;>(first|subst hy|obtain⟨_,_,_,rfl⟩:=hy)<;>cases op<;>simp[eqGuard]
  |map p=>cases p<;>simp only[VR]at hy<;>(first|subst hy|obtain⟨_,_,rfl⟩:=hy)<;>cases op<;>simp[eqGuard]
  |sliceE=>simp only[VR]at hy;obtain⟨_,_,rfl⟩:=hy;cases op<;>simp[eqGuard]
  |odd a=>simp only[VR]at hy;subst hy;cases op<;>simp[eqGuard]
  |lsl b n m=>simp only[VR]at hy;obtain⟨_,_,rfl⟩:=hy;cases op<;>simp[eqGuard]
  |cat ps=>simp[eqG,b1U]at h
  |tsl b ps=>simp[eqG,b1U]at h
  |tlen ps=>simp[eqG,b1U]at h
  |any=>simp[eqG,b1U]at h
  |one=>simp[eqG,b1U]at h
  |sym i=>simp[eqG,b1U]at h
  |func fn f c=>simp only[VR]at hy;obtain⟨_,_,_,_,_,rfl⟩:=hy;cases op<;>simp[eqGuard]
  |yield i=>simp only[VR]at hy;obtain⟨_,_,rfl⟩:=hy;cases op<;>simp[eqGuard]
  |iface ty v=>simp only[VR]at hy;obtain⟨_,_,rfl⟩:=hy;cases op<;>simp[eqGuard]
  |tuple ds=>simp only[VR]at hy;obtain⟨_,_,rfl⟩:=hy;cases op<;>simp[eqGuard]
  |_=>simp only[VR]at hy;subst hy;cases op<;>simp[eqGuard]
 |nilIface=>
  simp only[VR]at hx;subst hx;cases y with
  |nilIface=>
   simp only[VR]at hy;subst hy;simp only[eqG,b1U,Bool.or_eq_true]at h;cases op<;>simp[eqGuard]
   all_goals
    rcases h with h|h
    ·cases ox<;>simp[isC]at h;simp
    ·cases oy<;>simp[isC]at h;cases ox<;>simp
  |ptr p=>cases p<;>simp only[VR]at hy<;>(first|subst hy|obtain⟨_,_,_,rfl⟩:=hy)<;>cases op<;>simp[eqGuard]
  |slice p l c=>cases p<;>simp only[VR]at hy<;>(first|subst hy|obtain⟨_,_,_,rfl⟩:=hy)<;>cases op<;>simp[eqGuard]
  |map p=>cases p<;>simp only[VR]at hy<;>(first|subst hy|obtain⟨_,_,rfl⟩:=hy)<;>cases op<;>simp[eqGuard]
  |sliceE=>simp only[VR]at hy;obtain⟨_,_,rfl⟩:=hy;cases op<;>simp[eqGuard]
  |odd a=>simp only[VR]at hy;subst hy;cases op<;>simp[eqGuard]
  |lsl b n m=>simp only[VR]at hy;obtain⟨_,_,rfl⟩:=hy;cases op<;>simp[eqGuard]
  |cat ps=>simp[eqG,b1U]at h
  |tsl b ps=>simp[eqG,b1U]at h
  |tlen ps=>simp[eqG,b1U]at h
  |any=>simp[eqG,b1U]at h
  |one=>simp[eqG,b1U]at h
  |sym i=>simp[eqG,b1U]at h
  |func fn f c=>simp only[VR]at hy;obtain⟨_,_,_,_,_,rfl⟩:=hy;cases op<;>simp[eqGuard]
  |yield i=>simp only[VR]at hy;obtain⟨_,_,rfl⟩:=hy;cases op<;>simp[eqGuard]
  |iface ty v=>simp only[VR]at hy;obtain⟨_,_,rfl⟩:=hy;cases op<;>simp[eqGuard]
  |tuple ds=>simp only[VR]at hy;obtain⟨_,_,rfl⟩:=hy;cases op<;>simp[eqGuard]
  |agg ds=>simp only[VR]at hy;obtain⟨_,_,rfl⟩:=hy;cases op<;>simp[eqGuard]
  |_=>simp only[VR]at hy;subst hy;cases op<;>simp[eqGuard]
 |int k n=>exact absurd rfl (hni k n)
 |string s=>exact absurd rfl (hns s)
 |ptr p=>cases p<;>simp only[VR]at hx<;>(first|subst hx|obtain⟨_,_,_,rfl⟩:=hx)<;>exact a0L _ _ _ _ _ _ (by simp) (by simp)
 |slice p l c=>cases p<;>simp only[VR]at hx<;>(first|subst hx|obtain⟨_,_,_,rfl⟩:=hx)<;>exact a0L _ _ _ _ _ _ (by simp) (by simp)
 |map p=>cases p<;>simp only[VR]at hx<;>(first|subst hx|obtain⟨_,_,rfl⟩:=hx)<;>exact a0L _ _ _ _ _ _ (by simp) (by simp)
 |sliceE=>simp only[VR]at hx;obtain⟨_,_,rfl⟩:=hx;exact a0L _ _ _ _ _ _ (by simp) (by simp)
 |odd a=>simp only[VR]at hx;subst hx;exact a0L _ _ _ _ _ _ (by simp) (by simp)
 |lsl b n m=>simp only[VR]at hx;obtain⟨_,_,rfl⟩:=hx;exact a0L _ _ _ _ _ _ (by simp) (by simp)
 |cat ps=>cases y<;>simp[eqG,b1U]at h
 |tsl b ps=>cases y<;>simp[eqG,b1U]at h
 |tlen ps=>cases y<;>simp[eqG,b1U]at h
 |any=>cases y<;>simp[eqG,b1U]at h
 |one=>cases y<;>simp[eqG,b1U]at h
 |sym i=>cases y<;>simp[eqG,b1U]at h
 |sint k i=>simp only[VR]at hx;subst hx;exact a0L _ _ _ _ _ _ (by simp) (by simp)
 |func fn f c=>simp only[VR]at hx;obtain⟨_,_,_,_,_,rfl⟩:=hx;exact a0L _ _ _ _ _ _ (by simp) (by simp)
 |yield i=>simp only[VR]at hx;obtain⟨_,_,rfl⟩:=hx;exact a0L _ _ _ _ _ _ (by simp) (by simp)
 |iface ty v=>simp only[VR]at hx;obtain⟨_,_,rfl⟩:=hx;exact a0L _ _ _ _ _ _ (by simp) (by simp)
 |tuple ds=>simp only[VR]at hx;obtain⟨_,_,rfl⟩:=hx;exact a0L _ _ _ _ _ _ (by simp) (by simp)
 |bool b=>simp only[VR]at hx;subst hx;exact a0L _ _ _ _ _ _ (by simp) (by simp)
 |nilFunc=>simp only[VR]at hx;subst hx;exact a0L _ _ _ _ _ _ (by simp) (by simp)
theorem a1U{a b:Nat}(h:Nat.blt a b=true):a<b:=by have:Nat.ble (a+1) b=true:=h;exact Nat.le_of_ble_eq_true this
theorem a3o[Ext]{P:Program}{w0:World}{φ:Phi}{H:VH}{w:World}(hs:HSim w0 φ H w)(op:BinOp)(t:TypeId)(ox oy:Operand){x y:VV}{x' y':Value}(hx:VR φ x x')(hy:VR φ y y'):
  ROR φ w (a2m P op t ox oy x' y' w) (b4L H.base op x y):=by
 unfold b4L;split
 ·rename_i a b ha hb;obtain⟨s,h1,rfl⟩:=b7D hs.env ha hx;obtain⟨u,h2,rfl⟩:=b7D hs.env hb hy;have key:=b0T (P:=P) (φ:=φ) (w:=w) op t ox oy s u;split
  ·split
   ·rename_i m n h3 h4;split
    ·rename_i hd;have:=of_decide_eq_true hd;have e1:=b1l hs.env h3 h1;have e2:=b1l hs.env h4 h2;simp only[b4M,ROR]at key;obtain⟨v,r1,r2⟩:=key (decide_eq_true (by omega));refine⟨v,r1, ?_⟩;simp only[VR]at r2 ⊢;exact⟨_,b8u h1 h2,r2⟩
    ·trivial
   ·trivial
  ·split
   ·rename_i he;have:=a7S he;subst this;rw[h1]at h2;cases h2;simp only[b4M,ROR]at key;obtain⟨v,r1,r2⟩:=key;refine⟨v,r1, ?_⟩;simp only[VR,a6Z,beq_self_eq_true]at r2 ⊢;exact r2
   ·trivial
  ·split
   ·rename_i he;have:=a7S he;subst this;rw[h1]at h2;cases h2;simp only[b4M,ROR]at key;obtain⟨v,r1,r2⟩:=key;refine⟨v,r1, ?_⟩;simp only[VR,a6Z,beq_self_eq_true,Bool.not_true]at r2 ⊢;exact r2
   ·trivial
  ·trivial
 ·trivial
theorem a9v{φ:Phi}{w:World}{r:Result Value}{x y:RO}(h1:ROR φ w r x)(h2:ROR φ w r y):ROR φ w r (c2A x y):=by
 unfold c2A;split
 ·exact h2
 ·exact h1
theorem a6E[Ext]{P:Program}{w0:World}{φ:Phi}{H:VH}{w:World}(hs:HSim w0 φ H w)(op:BinOp)(t:TypeId)(ox oy:Operand){x y:VV}{x' y':Value}(hx:VR φ x x')(hy:VR φ y y'):
  ROR φ w (a2m P op t ox oy x' y' w) (b4N P H op t (isC ox) (isC oy) x y):=by
 have key: ∀(_: ∀k n,x≠ .int k n) (_: ∀s,x≠ .string s) (hb: ∀r:Bool,(Op.equal t x' y').run P w= .ok r w→(binOp .eql t x' y').run P w= .ok (.bool r) w∧(binOp .neq t x' y').run P w= .ok (.bool (!r)) w),
   ROR φ w (a2m P op t ox oy x' y' w) (d5V P H op t (isC ox) (isC oy) x y):=by
  intro h1 h2 hb;unfold d5V
  cases op<;>first
   |trivial
   |(simp only
     cases hg:eqG P t (isC ox) (isC oy) x y with
     |false=>trivial
     |true=>
      cases hq:teq P H.base 50 t x y with
      |none=>trivial
      |some r=>
       simp only[ROR];have hgr:=fun o:BinOp=>c7g (P:=P) (w:=w) (op:=o) (t:=t) hx hy ox oy hg h1 h2;have hrun:=c5L (P:=P) (φ:=φ) hs.env 50 9950 t x y r hq x' y' w hx hy;obtain⟨hb1,hb2⟩:=hb r hrun
       first
        |(refine⟨.bool r, ?_,by simp[VR]⟩;simp only[a2m,Sem.run_bind,hgr .eql,Result.andThen_ok,hb1];done)
        |(refine⟨.bool (!r), ?_,by simp[VR]⟩;simp only[a2m,Sem.run_bind,hgr .neq,Result.andThen_ok,hb2];done))
 unfold b4N;cases x with
 |int k a=>
  cases y with
  |int k' b=>simp only[VR]at hx hy;subst hx;subst hy;exact b8S op t ox oy k k' a b
  |sint k' j=>exact a4j hs op t ox oy hx hy
  |_=>trivial
 |sint k j=>exact a4j hs op t ox oy hx hy
 |sym j=>exact a9v (a4j hs op t ox oy hx hy) (a3o hs op t ox oy hx hy)
 |cat ps=>exact a3o hs op t ox oy hx hy
 |tsl b ps=>trivial
 |tlen ps=>trivial
 |any=>unfold d5V;cases op<;>first|trivial|(cases y<;>simp only[eqG,b1U]<;>trivial)
 |one=>unfold d5V;cases op<;>first|trivial|(cases y<;>simp only[eqG,b1U]<;>trivial)
 |string a=>
  cases y with
  |string b=>simp only[VR]at hx hy;subst hx;subst hy;exact b0T op t ox oy a b
  |sym j=>exact a9v (a4j hs op t ox oy hx hy) (a3o hs op t ox oy hx hy)
  |cat ps=>exact a3o hs op t ox oy hx hy
  |_=>trivial
 |ptr p=>refine key (by simp) (by simp) ?_;cases p<;>simp only[VR]at hx<;>(first|subst hx|obtain⟨_,_,_,rfl⟩:=hx)<;>intro r hr<;>simp[binOp,hr]
 |slice p l c=>refine key (by simp) (by simp) ?_;cases p<;>simp only[VR]at hx<;>(first|subst hx|obtain⟨_,_,_,rfl⟩:=hx)<;>intro r hr<;>simp[binOp,hr]
 |map p=>refine key (by simp) (by simp) ?_;cases p<;>simp only[VR]at hx<;>(first|subst hx|obtain⟨_,_,rfl⟩:=hx)<;>intro r hr<;>simp[binOp,hr]
 |sliceE=>simp only[VR]at hx;obtain⟨_,_,rfl⟩:=hx;refine key (by simp) (by simp) ?_;intro r hr;simp[binOp,hr]
 |odd a=>simp only[VR]at hx;subst hx;refine key (by simp) (by simp) ?_;intro r hr;simp[binOp,hr]
 |lsl b n m=>simp only[VR]at hx;obtain⟨_,_,rfl⟩:=hx;refine key (by simp) (by simp) ?_;intro r hr;simp[binOp,hr]
 |func fn f c=>simp only[VR]at hx;obtain⟨_,_,_,_,_,rfl⟩:=hx;refine key (by simp) (by simp) ?_;intro r hr;simp[binOp,hr]
 |yield i=>simp only[VR]at hx;obtain⟨_,_,rfl⟩:=hx;refine key (by simp) (by simp) ?_;intro r hr;simp[binOp,hr]
 |iface ty v=>simp only[VR]at hx;obtain⟨_,_,rfl⟩:=hx;refine key (by simp) (by simp) ?_;intro r hr;simp[binOp,hr]
 |tuple ds=>simp only[VR]at hx;obtain⟨_,_,rfl⟩:=hx;refine key (by simp) (by simp) ?_;intro r hr;simp[binOp,hr]
 |agg ds=>simp only[VR]at hx;obtain⟨_,_,rfl⟩:=hx;refine key (by simp) (by simp) ?_;intro r hr;simp[binOp,hr]
 |bool b=>simp only[VR]at hx;subst hx;refine key (by simp) (by simp) ?_;intro r hr;simp[binOp,hr]
 |nilFunc=>simp only[VR]at hx;subst hx;refine key (by simp) (by simp) ?_;intro r hr;simp[binOp,hr]
 |nilIface=>simp only[VR]at hx;subst hx;refine key (by simp) (by simp) ?_;intro r hr;simp[binOp,hr]
theorem c1E[Ext]{P:Program}{w0:World}{φ:Phi}{H:VH}{w:World}(hs:HSim w0 φ H w)(op:BinOp)(t:TypeId)(ox oy:Operand){x y:VV}{x' y':Value}(hx:VR φ x x')(hy:VR φ y y'):
  ROR φ w (a2m P op t ox oy x' y' w) (c4L P H op t (isC ox) (isC oy) x y):=by
 unfold c4L;split
 ·split
  ·split
   ·rename_i u _ b hf;obtain⟨vs,v,h1,h2,h3⟩:=hs.env.tab _ (a0y hf);simp only[a3S,a0g,Option.some.injEq]at h1 h2;subst h1 h2
    have hb:φ.ρ.val u= .bool b:=by
     unfold a6W at h3;split at h3
     all_goals first
      |(rename_i e1 e2 e3;simp_all;done)
      |simp_all
    have e:=a0q (show a0g φ.ρ (.sym u)=some (.bool b)by simp only[a0g,hb]) hy;subst e;exact a6E hs op t ox oy hx (by simp only[VR])
   ·trivial
  ·exact a6E hs op t ox oy hx hy
 ·exact a6E hs op t ox oy hx hy
def d4G(op:UnOp)(x:VV):RO:=
 match op,x with
 |.not,.bool b=>.val (.bool (!b))|.neg,.int k n=>.val (.int k (k.wrap (0-n)))|.xor,.int k n=>.val (.int k (k.wrap (BitVec.ofInt k.bits (if k.signed then -1 else k.max)^^^BitVec.ofInt k.bits n).toNat))|_,_=>.bad
theorem c0r{P:Program}{φ:Phi}{w:World}(op:UnOp){x:VV}{x':Value}(hx:VR φ x x'):ROR φ w ((Op.unary op x').run P w) (d4G op x):=by
 unfold d4G
 cases op<;>cases x<;>first
  |trivial
  |(simp only[VR]at hx;subst hx;simp only[ROR];refine⟨_,rfl, ?_⟩;simp[VR])
def d9f(H:VH)(op:UnOp)(x:VV):RO:=match c2W x with
 |false=>d4G op x|true=>RO.of (a1M (.un op) [x] H.base.tab)
theorem c4E[Ext]{P:Program}{w0:World}{φ:Phi}{H:VH}{w:World}(h:HSim w0 φ H w)(op:UnOp){x:VV}{x':Value}(hx:VR φ x x'):ROR φ w ((Op.unary op x').run P w) (d9f H op x):=by
 unfold d9f;cases hs:c2W x with
 |false=>exact c0r op hx
 |true=>
  simp only;cases hf:a1M (.un op) [x] H.base.tab with
  |none=>trivial
  |some r=>
   obtain⟨v,h1,h2⟩:=fn1 h.env hf hx;simp only[RO.of,ROR];cases x'<;>try (simp[a6W]at h2;done)
   exact⟨v,h2 P w,h1⟩
def bytesOf:List VV→Option (List Int)
 | []=>some []
 |.int .u8 n::l=>match bytesOf l with
  |some r=>some (n::r)|none=>none
 |_::_=>none
def a6t:List Int→List UInt8
 | []=>[]|n::l=>UInt8.ofNat n.toNat::a6t l
theorem a7L: ∀(ns:List Int) (s:ByteArray),ns.foldl (fun r n=>r.push (UInt8.ofNat n.toNat)) s=⟨⟨s.data.toList++a6t ns⟩⟩
 | [],s=>by simp[a6t]
 |n::ns,s=>by simp only[List.foldl_cons,a7L ns,a6t];obtain⟨⟨l⟩⟩:=s;simp[ByteArray.push]
theorem a8p{φ:Phi}: ∀(l:List VV) (vs:List Value) (ns:List Int),VRs φ l vs→bytesOf l=some ns→vs=ns.map (Value.int .u8)
 | [],vs,ns,h,hb=>by simp only[VRs]at h;subst h;simp only[bytesOf,Option.some.injEq]at hb;subst hb;rfl
 |x::l,vs,ns,h,hb=>by
  simp only[VRs]at h;obtain⟨y,ys,rfl,h1,h2⟩:=h;cases x with
  |int k n=>
   cases k<;>simp only[bytesOf]at hb<;>try (cases hb;done)
   cases hr:bytesOf l with
   |none=>rw[hr]at hb;cases hb
   |some r=>rw[hr]at hb;simp only[Option.some.injEq]at hb;subst hb;simp only[VR]at h1;subst h1;rw[a8p l ys r h2 hr];rfl
  |_=>simp[bytesOf]at hb
def c1B(P:Program)(H:VH)(e:TypeId)(x:VV):RO:=
 match P.underlying e,x with
 |some (.int .u8),.slice none _ _=>.val (.string .empty)
 |some (.int .u8),.slice (some a) n _=>match a8T H a n with
  |some l=>match bytesOf l with
   |some b=>.val (.string ⟨⟨a6t b⟩⟩)|none=>.bad
  |none=>.bad
 |_,_=>.bad
def c1F(P:Program)(H:VH)(s:TypeDesc)(x:VV):RO:=match s with
 |.slice e=>c1B P H e x|_=>.bad
def b5X(P:Program)(H:VH)(s:TypeDesc)(x:VV):RO:=match s with
 |.pointer t=>match x with
  |.ptr none=>.val (.ptr none)
  |.ptr (some ⟨.loc i,o⟩)=>match P.info? t,H.locs.get i with
   |some j,some (.cells c _ _ _)=>match Nat.beq j.size 0,Nat.blt o c.length with
    |false,true=>.val (.ptr (some ⟨.loc i,o⟩))|_,_=>.bad
   |_,_=>.bad
  |_=>.bad
 |_=>.bad
def c7U(P:Program)(H:VH)(s:TypeDesc)(u:TypeId)(x:VV):RO:=match s with
 |.unsafePointer=>match x with
  |.ptr none=>.val (.ptr none)
  |.ptr (some ⟨.loc i,o⟩)=>match P.info? u,H.locs.get i with
   |some _,some (.cells c none _ (some e))=>match liesAt P P.depth e (c.length/P.cellsOf e) o u 1 with
    |true=>.val (.ptr (some ⟨.loc i,o⟩))|false=>.bad
   |_,_=>.bad
  |_=>.bad
 |_=>.bad
theorem b9k{k:IntKind}{n:Int}(h1:k.min≤n)(h2:n≤k.max):k.wrap n=n:=by cases k<;>simp[IntKind.min,IntKind.max,IntKind.signed,IntKind.bits]at h1 h2<;>simp[IntKind.wrap,IntKind.signed,IntKind.bits]<;>omega
def c7a(P:Program)(H:VH)(src dst:TypeId)(x:VV):RO:=
 match P.underlying src,P.underlying dst with
 |some s,some d=>match d with
  |.int k=>match x with
   |.int _ n=>.val (.int k (k.wrap n))
   |.sint _ i=>match H.base.ivl i with
    |(l,u)=>match decide (k.min≤l),decide (u≤k.max)with
     |true,true=>.val (.sint k i)|_,_=>RO.of (a1M (.conv k) [x] H.base.tab)
   |_=>.bad
  |.string=>match x with
   |.string s=>.val (.string s)|x=>c1F P H s x
  |.unsafePointer=>b5X P H s x|.pointer u=>c7U P H s u x|_=>.bad
 |_,_=>.bad
theorem b3T[Ext]{P:Program}{w0:World}{φ:Phi}{H:VH}{w:World}(h:HSim w0 φ H w){src dst:TypeId}{s:TypeDesc}(hs:P.underlying src=some s)(hd:P.underlying dst=some .unsafePointer){x:VV}{x':Value}(hx:VR φ x x'):
  ROR φ w ((convert src dst x').run P w) (b5X P H s x):=by
 unfold b5X;split
 ·split
  ·simp only[VR]at hx;subst hx;exact⟨.pointer none,by simp[convert,run_underlying hs,run_underlying hd,Conv.unsafePointer],by simp only[VR]⟩
  ·rename_i t i o;split
   ·rename_i j c g ro et hj hg;split
    ·rename_i hz hl;have hx0:=hx;simp only[VR]at hx;obtain⟨a',sl,ha,rfl⟩:=hx;simp only[AR]at ha;obtain⟨inf,hφ,rfl,_⟩:=ha;obtain⟨inf',o',hφ',hw,⟨c',e,fr,rfl,hc⟩,_⟩:=h.live i _ hg;rw[hφ]at hφ';cases hφ';have hsz:=hc.size;have hl':=a1U hl;refine⟨_,Lib.run_to_unsafe w ⟨inf.blk,inf.off+o,none⟩ hs hd hj (fun e0=>by rw[e0]at hz;cases hz) (e:=e) (cells:=c'.size) (by simp[World.shape?,hw]) (by simp only;omega),hx0⟩
    ·trivial
   ·trivial
  ·trivial
 ·trivial
theorem b8L[Ext]{P:Program}{w0:World}{φ:Phi}{H:VH}{w:World}(h:HSim w0 φ H w){src dst u:TypeId}{s:TypeDesc}(hs:P.underlying src=some s)(hd:P.underlying dst=some (.pointer u)){x:VV}{x':Value}(hx:VR φ x x'):
  ROR φ w ((convert src dst x').run P w) (c7U P H s u x):=by
 unfold c7U;split
 ·split
  ·simp only[VR]at hx;subst hx;exact⟨.pointer none,by simp[convert,run_underlying hs,run_underlying hd,Conv.unsafePointer],by simp only[VR]⟩
  ·rename_i i o;split
   ·rename_i j c ro e hj hg;split
    ·rename_i hl;have hx0:=hx;simp only[VR]at hx;obtain⟨a',sl,ha,rfl⟩:=hx;simp only[AR]at ha;obtain⟨inf,hφ,rfl,_⟩:=ha;obtain⟨inf',o',hφ',hw,⟨c',e',fr,rfl,hc⟩,_⟩:=h.live i _ hg;rw[hφ]at hφ';cases hφ';obtain⟨rfl,hc2⟩:=hc.typ e rfl;obtain⟨h0,h1⟩:=hc2 rfl;refine⟨_,Lib.run_from_unsafe w ⟨inf.blk,inf.off+o,none⟩ hs hd hj (e:=e') (cells:=c'.size) (by simp[World.shape?,hw]) (by rw[h1,h0];simpa using hl),hx0⟩
    ·trivial
   ·trivial
  ·trivial
 ·trivial
theorem b5g[Ext]{P:Program}{w0:World}{φ:Phi}{H:VH}{w:World}(h:HSim w0 φ H w){src dst e:TypeId}(hs:P.underlying src=some (.slice e))(hd:P.underlying dst=some .string){x:VV}{x':Value}(hx:VR φ x x'):
  ROR φ w ((convert src dst x').run P w) (c1B P H e x):=by
 unfold c1B;cases hu:P.underlying e with
 |none=>trivial
 |some d=>cases d with
  |int k=>cases k with
   |u8=>cases x with
    |slice p n c=>cases p with
     |none=>simp only[VR]at hx;subst hx;simp only[ROR];refine⟨.string .empty, ?_,by simp[VR]⟩;rw[run_convert_bytes_string w src dst e _ n c hs hu hd];rfl
     |some a=>
      simp only;cases hl:a8T H a n with
      |none=>trivial
      |some l=>
       simp only;cases hb:bytesOf l with
       |none=>trivial
       |some b=>simp only[VR]at hx;obtain⟨a',s,ha,rfl⟩:=hx;obtain⟨vs,h1,h2,_,h4⟩:=a3W h ha hl;have hvs:=a8p _ _ _ h1 hb;simp only[ROR];refine⟨.string ⟨⟨a6t b⟩⟩, ?_,by simp[VR]⟩;rw[run_convert_bytes_string w src dst e _ n _ hs hu hd];have hrun:=run_loadCells_list (P:=P) w a' vs h4;rw[h2,hvs]at hrun;rw[run_bytesToString w a' n _ b hrun,a7L];rfl
    |_=>trivial
   |_=>cases x<;>trivial
  |_=>cases x<;>trivial
theorem b8R[Ext]{P:Program}{w0:World}{φ:Phi}{H:VH}{w:World}(h:HSim w0 φ H w){src dst:TypeId}{x:VV}{x':Value}(hx:VR φ x x'):
  ROR φ w ((convert src dst x').run P w) (c7a P H src dst x):=by
 unfold c7a;cases hs:P.underlying src with
 |none=>trivial
 |some sd=>cases hd:P.underlying dst with
  |none=>trivial
  |some d=>cases d with
   |int k=>cases x with
    |int k' n=>simp only[VR]at hx;subst hx;simp only[ROR];refine⟨.int k (k.wrap n), ?_,by simp[VR]⟩;simp[convert,run_underlying hs,run_underlying hd,Conv.intToInt]
    |sint k' i=>
     have hx0:=hx;simp only[VR]at hx;subst hx;have hi:=h.env.ivl i;simp only;split
     ·rename_i g1 g2;have g1:=of_decide_eq_true g1;have g2:=of_decide_eq_true g2;simp only[ROR];refine⟨.int k (φ.ρ.int i), ?_,by simp[VR]⟩;simp[convert,run_underlying hs,run_underlying hd,Conv.intToInt];exact b9k (Int.le_trans g1 hi.1) (Int.le_trans hi.2 g2)
     ·cases hf:a1M (.conv k) [.sint k' i] H.base.tab with
      |none=>trivial
      |some r=>obtain⟨v,e1,e2⟩:=fn1 h.env hf hx0;simp only[a6W]at e2;subst e2;simp only[RO.of,ROR];refine⟨.int k (k.wrap (φ.ρ.int i)), ?_,e1⟩;simp[convert,run_underlying hs,run_underlying hd,Conv.intToInt]
    |_=>trivial
   |string=>
    have slc:ROR φ w ((convert src dst x').run P w) (c1F P H sd x):=by
     unfold c1F;cases sd with
     |slice e=>exact b5g h hs hd hx
     |_=>trivial
    cases x with
    |string s=>simp only[VR]at hx;subst hx;simp only[ROR];refine⟨.string s, ?_,by simp[VR]⟩;simp[convert,run_underlying hs,run_underlying hd]
    |_=>exact slc
   |unsafePointer=>exact b3T h hs hd hx
   |pointer u=>exact b8L h hs hd hx
   |_=>trivial
def mapOf(H:VH):VB→Option (List (VV×VV×Nat)×Nat)
 |.loc i=>match H.locs.get i with
  |some (.map es c)=>some (es,c)|_=>none
 |_=>none
def c1b(H:VH)(str:Bool)(x:VV):RO:=match a1f str x H.base.tab with
 |some r=>.val r|none=>.bad
def b2O(H:VH):VV→Option (List (VV×VV))
 |.map (some (.loc i))=>match H.locs.get i with
  |some (.mapU es)=>some es|_=>none
 |_=>none
theorem b4U{φ:Phi}: ∀(xs:List (VV×VV)) (es:List MapEntry),EUs φ xs es→xs.length=es.length
 | [],es,h=>by simp only[EUs]at h;subst h;rfl
 |x::xs,es,h=>by simp only[EUs]at h;obtain⟨y,ys,rfl,_,_,h5⟩:=h;simp[b4U xs ys h5]
theorem b0A[Ext]{w0:World}{φ:Phi}{H:VH}{w:World}(h:HSim w0 φ H w){x:VV}{x':Value}(hx:VR φ x x'){es:List (VV×VV)}(hm:b2O H x=some es):
  ∃r es' c l,x'= .map (some r)∧w.heap[r]? =some (.map ⟨es'⟩ c)∧List.Perm l es∧EUs φ l es':=by
 unfold b2O at hm;split at hm
 ·rename_i i;split at hm
  ·rename_i es0 hg;simp only[Option.some.injEq]at hm;subst hm;obtain⟨inf,o',h1,h2,⟨es',c,l,rfl,h3,h4⟩,_⟩:=h.live i _ hg;simp only[VR,BR]at hx;obtain⟨r,⟨inf',h5,rfl⟩,rfl⟩:=hx;rw[h1]at h5;cases h5;exact⟨inf.blk,es',c,l,rfl,h2,h3,h4⟩
  ·cases hm
 ·cases hm
def c6m(H:VH)(n m:Nat):RO:=match decide (0≤(H.base.ivl n).1),decide ((H.base.ivl n).2+(m:Int)≤9223372036854775807)with
 |true,true=>match m with
  |0=>.val (.sint .i64 n)|m+1=>RO.of (a1r .add (.sint .i64 n) (.int .i64 ((m+1:Nat):Int)) H.base.tab)
 |_,_=>.bad
theorem b7b[Ext]{P:Program}{w0:World}{φ:Phi}{H:VH}{w:World}(h:HSim w0 φ H w){t e:TypeId}{ts:List TypeId}{ty:TypeId}(hu:P.underlying t=some (.slice e)){b n m:Nat}{x':Value}(hx:VR φ (.lsl b n m) x'):
  ROR φ w ((Builtin.len_ ⟨t::ts⟩ ty #[x']).run P w) (c6m H n m):=by
 simp only[VR]at hx;obtain⟨inf,_,rfl⟩:=hx;have hi:=h.env.ivl n;unfold c6m;split
 ·rename_i g1 g2;have g1:=of_decide_eq_true g1;have g2:=of_decide_eq_true g2;have hr:(Builtin.len_ ⟨t::ts⟩ ty #[.slice (some ⟨inf.blk,inf.off,none⟩) ((φ.ρ.int n).toNat+m) ((φ.ρ.int n).toNat+m+inf.slack)]).run P w= .ok (.int .i64 (((φ.ρ.int n).toNat+m:Nat):Int)) w:=by simp[Builtin.len_,run_underlying hu,goInt]
  cases m with
  |zero=>
   simp only[ROR];refine⟨_,hr, ?_⟩;simp only[VR]
   congr 1
   omega
  |succ m=>
   show ROR φ w _ (RO.of (a1r .add (.sint .i64 n) (.int .i64 ((m+1:Nat):Int)) H.base.tab));cases hf:a1r .add (.sint .i64 n) (.int .i64 ((m+1:Nat):Int)) H.base.tab with
   |none=>trivial
   |some r=>
    obtain⟨a,c,v,h1,h2,h3,_,_,h4⟩:=h.env.tab _ (a0v hf);simp only[a0g,Option.some.injEq]at h1 h2;subst h1 h2;refine⟨_,hr, ?_⟩
    have hv:v= .int .i64 (((φ.ρ.int n).toNat+(m+1):Nat):Int):=by
     have:=h4 P 0 w
     have e:IntKind.i64.wrap (φ.ρ.int n+((m+1:Nat):Int))=(((φ.ρ.int n).toNat+(m+1):Nat):Int):=by rw[b9k (by simp[IntKind.min,IntKind.signed,IntKind.bits];omega) (by simp[IntKind.max,IntKind.signed,IntKind.bits];omega)];omega
     simp[binOp,Op.intArith]at this;rw[←e];exact this.symm
    rw[←hv];exact a3x h3
 ·trivial
def d4I(P:Program)(H:VH)(t:TypeId)(x:VV):RO:=
 match P.underlying t with
 |some .string=>match x with|.string s=>.val (.int .i64 s.size)|.sym _=>c1b H true x|.cat ps=>.val (.tlen ps)|_=>.bad
 |some (.array n _)=>.val (.int .i64 n)
 |some (.pointer p)=>match P.underlying p with|some (.array n _)=>.val (.int .i64 n)|_=>.bad
 |some (.slice _)=>match x with|.slice _ n _=>.val (.int .i64 n)|.sliceE=>.val (.int .i64 0)|.sym _=>c1b H false x|.lsl _ n m=>c6m H n m|.tsl _ ps=>.val (.tlen ps)|_=>.bad
 |some (.map _ _)=>match x with
  |.map none=>.val (.int .i64 0)
  |.map (some b)=>match mapOf H b with
   |some (es,_)=>.val (.int .i64 es.length)
   |none=>match b2O H x with
    |some es=>.val (.int .i64 es.length)|none=>.bad
  |_=>.bad
 |_=>.bad
theorem b4V{φ:Phi}: ∀(xs:List (VV×VV×Nat)) (es:List MapEntry),ERs φ xs es→xs.length=es.length
 | [],es,h=>by simp only[ERs]at h;subst h;rfl
 |x::xs,es,h=>by simp only[ERs]at h;obtain⟨y,ys,rfl,_,_,_,h5⟩:=h;simp[b4V xs ys h5]
theorem b2P[Ext]{w0:World}{φ:Phi}{H:VH}{w:World}(h:HSim w0 φ H w){b:VB}{r:Nat}(hb:BR φ b r){es:List (VV×VV×Nat)}{c:Nat}(hm:mapOf H b=some (es,c)):
  ∃es',w.heap[r]? =some (.map ⟨es'⟩ c)∧ERs φ es es':=by
 cases b with
 |base r=>simp[mapOf]at hm
 |sym r=>simp[mapOf]at hm
 |loc i=>
  simp only[mapOf]at hm;cases hg:H.locs.get i with
  |none=>rw[hg]at hm;simp at hm
  |some o=>
   rw[hg]at hm;cases o with
   |map es0 c0=>simp only[Option.some.injEq,Prod.mk.injEq]at hm;obtain⟨rfl,rfl⟩:=hm;obtain⟨inf,o',h1,h2,⟨es',rfl,h3⟩,_⟩:=h.live i _ hg;simp only[BR]at hb;obtain⟨inf',h1',rfl⟩:=hb;rw[h1]at h1';cases h1';exact⟨es',h2,h3⟩
   |_=>simp at hm
theorem run_getObj_map{P:Program}{w:World}{r:Nat}{es:Array MapEntry}{c:Nat}(h:w.heap[r]? =some (.map es c)):(getObj r).run P w= .ok (.map es c) w:=by simp[getObj,Sem.run,h]
theorem a9r[Ext]{P:Program}{w0:World}{φ:Phi}{H:VH}{w:World}(h:HSim w0 φ H w){t:TypeId}{ts:List TypeId}{ty:TypeId}{str:Bool}(hu:match str with|true=>P.underlying t=some .string|false=> ∃e,P.underlying t=some (.slice e)){x:VV}{x':Value}(hx:VR φ x x'):
  ROR φ w ((Builtin.len_ ⟨t::ts⟩ ty #[x']).run P w) (c1b H str x):=by
 unfold c1b;cases hf:a1f str x H.base.tab with
 |none=>trivial
 |some r=>
  obtain⟨v,n,h1,h2,h3⟩:=h.env.tab _ (a0d hf);have e:=a0q h1 hx;subst e;simp only[ROR];refine⟨.int .i64 n, ?_,a3x h3⟩;cases str with
  |true=>obtain⟨s,rfl,rfl⟩:=h2;simp[Builtin.len_,run_underlying hu,goInt]
  |false=>obtain⟨a,c,rfl⟩:=h2;obtain⟨e,hu⟩:=hu;simp[Builtin.len_,run_underlying hu,goInt]
theorem c0x[Ext]{P:Program}{w0:World}{φ:Phi}{H:VH}{w:World}(h:HSim w0 φ H w){t:TypeId}{ts:List TypeId}{ty:TypeId}{x:VV}{x':Value}(hx:VR φ x x'):
  ROR φ w ((Builtin.len_ ⟨t::ts⟩ ty #[x']).run P w) (d4I P H t x):=by
 unfold d4I;cases hu:P.underlying t with
 |none=>trivial
 |some d=>cases d with
  |string=>cases x with
   |string s=>simp only[VR]at hx;subst hx;simp only[ROR];exact⟨.int .i64 s.size,by simp[Builtin.len_,run_underlying hu,goInt],by simp[VR]⟩
   |sym j=>exact a9r h (str:=true) hu hx
   |cat ps=>simp only[VR]at hx;obtain⟨s,h1,rfl⟩:=hx;simp only[ROR];exact⟨.int .i64 s.size,by simp[Builtin.len_,run_underlying hu,goInt],by simp only[VR];exact⟨s,h1,rfl⟩⟩
   |_=>trivial
  |array n e=>simp only[ROR];exact⟨.int .i64 n,by simp[Builtin.len_,run_underlying hu,goInt],by simp[VR]⟩
  |pointer p=>
   simp only;cases hp:P.underlying p with
   |none=>trivial
   |some d=>cases d with
    |array n e=>simp only[ROR];exact⟨.int .i64 n,by simp[Builtin.len_,run_underlying hu,run_underlying hp,goInt],by simp[VR]⟩
    |_=>trivial
  |slice e=>cases x with
   |slice p n c=>simp only[ROR];refine⟨.int .i64 n, ?_,by simp[VR]⟩;cases p<;>simp only[VR]at hx<;>(first|subst hx|obtain⟨_,_,_,rfl⟩:=hx)<;>simp[Builtin.len_,run_underlying hu,goInt]
   |sliceE=>simp only[VR]at hx;obtain⟨_,_,rfl⟩:=hx;simp only[ROR];exact⟨.int .i64 0,by simp[Builtin.len_,run_underlying hu,goInt],by simp[VR]⟩
   |sym j=>exact a9r h (str:=false) ⟨e,hu⟩ hx
   |lsl b n m=>exact b7b h hu hx
   |tsl b ps=>simp only[VR]at hx;obtain⟨inf,s,h0,h1,_,rfl⟩:=hx;simp only[ROR];exact⟨.int .i64 s.size,by simp[Builtin.len_,run_underlying hu,goInt],by simp only[VR];exact⟨s,h1,rfl⟩⟩
   |_=>trivial
  |map k e=>cases x with
   |map b=>cases b with
    |none=>simp only[VR]at hx;subst hx;simp only[ROR];exact⟨.int .i64 0,by simp[Builtin.len_,run_underlying hu,goInt],by simp[VR]⟩
    |some b=>
     simp only;cases hm:mapOf H b with
     |none=>
      simp only;cases hmu:b2O H (.map (some b))with
      |none=>trivial
      |some es=>obtain⟨r,es',c,l,rfl,hw,hp,he⟩:=b0A h hx hmu;simp only[ROR];refine⟨.int .i64 es.length, ?_,by simp[VR]⟩;simp[Builtin.len_,run_underlying hu,goInt,run_getObj_map hw,←hp.length_eq,b4U _ _ he]
     |some ec=>obtain⟨es,c⟩:=ec;simp only[VR]at hx;obtain⟨r,hb,rfl⟩:=hx;obtain⟨es',hw,he⟩:=b2P h hb hm;simp only[ROR];refine⟨.int .i64 es.length, ?_,by simp[VR]⟩;simp[Builtin.len_,run_underlying hu,goInt,run_getObj_map hw,b4V _ _ he]
   |_=>trivial
  |_=>trivial
def d4J(P:Program)(H:VH)(t:TypeId)(x:VV):RO:=
 match P.underlying t,x with
 |some (.slice _),.slice none _ c=>.val (.int .i64 c)
 |some (.slice _),.slice (some a) _ c=>match a7a H a.b with
  |true=>.val (.int .i64 c)|false=>.bad
 |_,_=>.bad
theorem c1C[Ext]{P:Program}{w0:World}{φ:Phi}{H:VH}{w:World}(h:HSim w0 φ H w){t:TypeId}{ts:List TypeId}{ty:TypeId}{x:VV}{x':Value}(hx:VR φ x x'):
  ROR φ w ((Builtin.cap_ ⟨t::ts⟩ ty #[x']).run P w) (d4J P H t x):=by
 unfold d4J;cases hu:P.underlying t with
 |none=>trivial
 |some d=>cases d with
  |slice e=>cases x with
   |slice a l c=>cases a with
    |none=>simp only[VR]at hx;subst hx;simp only[ROR];exact⟨.int .i64 c,by simp[Builtin.cap_,run_underlying hu,goInt],by simp[VR]⟩
    |some a=>
     simp only;cases hf:a7a H a.b with
     |false=>trivial
     |true=>simp only[VR]at hx;obtain⟨a',s,ha,rfl⟩:=hx;have hs0:=a4h h ha hf;subst hs0;simp only[ROR];exact⟨.int .i64 c,by simp[Builtin.cap_,run_underlying hu,goInt],by simp[VR]⟩
   |_=>trivial
  |_=>cases x<;>trivial
def c7Y(x y:VV):RO:=match x,y with|.int k a,.int _ b=>.val (.int k (if b<a then b else a))|_,_=>.bad
def c7Z(x y:VV):RO:=match x,y with|.int k a,.int _ b=>.val (.int k (if b>a then b else a))|_,_=>.bad
theorem b8O{P:Program}{φ:Phi}{w:World}{ts:Array TypeId}{ty:TypeId}{x y:VV}{x' y':Value}(hx:VR φ x x')(hy:VR φ y y'):ROR φ w ((Builtin.min_ ts ty #[x',y']).run P w) (c7Y x y):=by
 unfold c7Y
 cases x<;>first
  |trivial
  |(cases y<;>first
    |trivial
    |(simp only[VR]at hx hy;subst hx;subst hy;simp only[ROR];exact⟨_,rfl,by simp[VR]⟩))
theorem b8P{P:Program}{φ:Phi}{w:World}{ts:Array TypeId}{ty:TypeId}{x y:VV}{x' y':Value}(hx:VR φ x x')(hy:VR φ y y'):ROR φ w ((Builtin.max_ ts ty #[x',y']).run P w) (c7Z x y):=by
 unfold c7Z
 cases x<;>first
  |trivial
  |(cases y<;>first
    |trivial
    |(simp only[VR]at hx hy;subst hx;subst hy;simp only[ROR];exact⟨_,rfl,by simp[VR]⟩))
def isInt:VV→Bool
 |.int _ _=>true|_=>false
def c4H(H:VH)(x y:VV):RO:=match isInt x,isInt y with
 |true,true=>c7Y x y
 |_,_=>match a9q H.base y x with
  |some true=>.val y|some false=>.val x|none=>RO.of (a1M .min [x,y] H.base.tab)
def c4J(H:VH)(x y:VV):RO:=match isInt x,isInt y with
 |true,true=>c7Z x y
 |_,_=>match a9q H.base x y with
  |some true=>.val y|some false=>.val x|none=>RO.of (a1M .max [x,y] H.base.tab)
theorem c0v[Ext]{P:Program}{w0:World}{φ:Phi}{H:VH}{w:World}(h:HSim w0 φ H w){ts:Array TypeId}{ty:TypeId}{x y:VV}{x' y':Value}(hx:VR φ x x')(hy:VR φ y y'):ROR φ w ((Builtin.min_ ts ty #[x',y']).run P w) (c4H H x y):=by
 unfold c4H;split
 ·exact b8O hx hy
 ·split
  ·rename_i hs;obtain⟨k,a,b,rfl,rfl,e⟩:=a1J h.env hs hy hx;have e':=of_decide_eq_true e.symm;simp only[ROR];exact⟨.int k (if a<b then a else b),rfl,by rw[if_pos e'];exact hy⟩
  ·rename_i hs;obtain⟨k,a,b,rfl,rfl,e⟩:=a1J h.env hs hy hx;have e':=of_decide_eq_false e.symm;simp only[ROR];exact⟨.int k (if a<b then a else b),rfl,by rw[if_neg e'];exact hx⟩
  ·cases hf:a1M .min [x,y] H.base.tab with
   |none=>trivial
   |some r=>
    obtain⟨v,e1,e2⟩:=fn2 h.env hf hx hy;cases x'<;>try (simp[a6W]at e2;done)
    cases y'<;>try (simp[a6W]at e2;done)
    rename_i k a k' b;simp only[a6W]at e2;subst e2;simp only[RO.of,ROR];exact⟨_,rfl,e1⟩
theorem c0w[Ext]{P:Program}{w0:World}{φ:Phi}{H:VH}{w:World}(h:HSim w0 φ H w){ts:Array TypeId}{ty:TypeId}{x y:VV}{x' y':Value}(hx:VR φ x x')(hy:VR φ y y'):ROR φ w ((Builtin.max_ ts ty #[x',y']).run P w) (c4J H x y):=by
 unfold c4J;split
 ·exact b8P hx hy
 ·split
  ·rename_i hs;obtain⟨k,a,b,rfl,rfl,e⟩:=a1J h.env hs hx hy;have e':=of_decide_eq_true e.symm;simp only[ROR];exact⟨.int k (if b>a then b else a),rfl,by rw[if_pos (show b>a from e')];exact hy⟩
  ·rename_i hs;obtain⟨k,a,b,rfl,rfl,e⟩:=a1J h.env hs hx hy;have e':=of_decide_eq_false e.symm;simp only[ROR];exact⟨.int k (if b>a then b else a),rfl,by rw[if_neg (show¬b>a from e')];exact hx⟩
  ·cases hf:a1M .max [x,y] H.base.tab with
   |none=>trivial
   |some r=>
    obtain⟨v,e1,e2⟩:=fn2 h.env hf hx hy;cases x'<;>try (simp[a6W]at e2;done)
    cases y'<;>try (simp[a6W]at e2;done)
    rename_i k a k' b;simp only[a6W]at e2;subst e2;simp only[RO.of,ROR];exact⟨_,rfl,e1⟩
def b2n(x:VV)(i:Nat):RO:=match x with|.tuple vs=>RO.of (a0H vs i)|_=>.bad
theorem b2m{P:Program}{φ:Phi}{w:World}{x:VV}{x':Value}(hx:VR φ x x')(i:Nat):ROR φ w ((Instr.extract x' i).run P w) (b2n x i):=by
 unfold b2n;cases x with
 |tuple vs=>simp only[VR]at hx;obtain⟨vs',hv,rfl⟩:=hx;refine c8K fun v h=> ?_;rw[a0K]at h;obtain⟨v',h1,h2⟩:=a2D _ _ hv _ _ h;exact⟨v',by simp[Instr.extract,h1],h2⟩
 |_=>trivial
def a1w(E:Env)(x y:VV):Option Bool:=
 match x with
 |.int k a=>match y with
  |.int k' b=>match kEq k k' with|true=>some (a==b)|false=>none
  |.sint _ _=>a9s E x y|_=>none
 |.sint _ _=>a9s E x y
 |.string a=>match y with
  |.string b=>some (b3K a b)|_=>none
 |_=>none
def b6G:TypeDesc→VV→Bool
 |.int _,.int _ _=>true|.int _,.sint _ _=>true|.string,.string _=>true|_,_=>false
def b1A(E:Env)(k:VV):List (VV×VV×Nat)→Nat→Option (Option (Nat×VV))
 | [],_=>some none
 |e::es,i=>match a1w E k e.1 with
  |some true=>some (some (i,e.2.1))|some false=>b1A E k es (i+1)|none=>none
theorem a9D[Ext]{E:Env}{w0:World}{φ:Phi}(he:EnvOK E φ w0){d:TypeDesc}{x y:VV}{x' y':Value}{r:Bool}(hd:b6G d x=true)(h:a1w E x y=some r)(hx:VR φ x x')(hy:VR φ y y'):Instr.sameNow d x' y'=some r:=by
 cases x with
 |int k a=>
  cases d<;>simp[b6G]at hd;cases y with
  |int k' b=>
   simp only[a1w]at h;cases hk:kEq k k' with
   |false=>rw[hk]at h;cases h
   |true=>rw[hk]at h;simp only[Option.some.injEq]at h;have e:k=k':=of_decide_eq_true hk;simp only[VR]at hx hy;subst hx;subst hy;subst h;simp[Instr.sameNow,e]
  |sint k' j=>obtain⟨k,u,v,rfl,rfl,rfl⟩:=a1K he (by simpa only[a1w]using h) hx hy;simp[Instr.sameNow]
  |_=>simp[a1w]at h
 |sint k j=>cases d<;>simp[b6G]at hd;obtain⟨k,u,v,rfl,rfl,rfl⟩:=a1K he (by simpa only[a1w]using h) hx hy;simp[Instr.sameNow]
 |string a=>
  cases d<;>simp[b6G]at hd;cases y with
  |string b=>simp only[a1w,Option.some.injEq]at h;simp only[VR]at hx hy;subst hx;subst hy;subst h;simp[Instr.sameNow,a6Z,beq_toListBytes]
  |_=>simp[a1w]at h
 |_=>simp[a1w]at h
theorem a7b[Ext]{E:Env}{w0:World}{φ:Phi}(he:EnvOK E φ w0){d:TypeDesc}{k:VV}{k':Value}(hd:b6G d k=true)(hk:VR φ k k'): ∀(xs:List (VV×VV×Nat)) (es:List MapEntry) (i:Nat) (r:Option (Nat×VV)),ERs φ xs es→b1A E k xs i=some r→
  ∃r',Instr.findNow d k' es i=some r'∧(match r with|none=>r'=none|some (j,v)=> ∃v',r'=some (j,v')∧VR φ v v')
 | [],es,i,r,h,hf=>by simp only[ERs]at h;subst h;simp only[b1A,Option.some.injEq]at hf;subst hf;exact⟨none,rfl,rfl⟩
 |x::xs,es,i,r,h,hf=>by
  simp only[ERs]at h;obtain⟨y,ys,rfl,h1,h2,_,h5⟩:=h;simp only[b1A]at hf;cases hq:a1w E k x.1 with
  |none=>rw[hq]at hf;cases hf
  |some q=>
   rw[hq]at hf;have hs:=a9D he hd hq hk h1;cases q with
   |true=>simp only[Option.some.injEq]at hf;subst hf;exact⟨some (i,y.val),by simp[Instr.findNow,hs],y.val,rfl,h2⟩
   |false=>obtain⟨r',k1,k2⟩:=a7b he hd hk xs ys (i+1) r h5 hf;exact⟨r',by simp[Instr.findNow,hs,k1],k2⟩
theorem run_checkKey{P:Program}{w:World}{φ:Phi}{t:TypeId}{d:TypeDesc}{k:VV}{k':Value}(hu:P.underlying t=some d)(hd:b6G d k=true)(hk:VR φ k k')(e:Bool)(n:Nat):(Instr.checkKey e (n+1) t k').run P w= .ok () w:=by
 cases k with
 |int kk a=>cases d<;>simp[b6G]at hd;simp only[VR]at hk;subst hk;simp[Instr.checkKey,run_underlying hu]
 |sint kk a=>cases d<;>simp[b6G]at hd;simp only[VR]at hk;subst hk;simp[Instr.checkKey,run_underlying hu]
 |string s=>cases d<;>simp[b6G]at hd;simp only[VR]at hk;subst hk;simp[Instr.checkKey,run_underlying hu]
 |_=>cases d<;>simp[b6G]at hd
def b5b(P:Program)(H:VH)(t:TypeId)(x k:VV)(ok:Bool):RO:=
 match P.underlying t with
 |some (.map kt et)=>match P.underlying kt with
  |some kd=>match b6G kd k with
   |false=>.bad
   |true=>match(match x with
     |.map none=>some ([],0)|.map (some b)=>mapOf H b
     |_=>none)with
    |none=>.bad
    |some (es,_)=>match b1A H.base k es 0 with
     |none=>.bad|some (some (_,v))=>.val (match ok with|true=>.tuple [v,.bool true]|false=>v)
     |some none=>match a2U P et with
      |none=>.bad|some z=>.val (match ok with|true=>.tuple [z,.bool false]|false=>z)
  |none=>.bad
 |_=>.bad
theorem b3W[Ext]{P:Program}{w0:World}{φ:Phi}{H:VH}{w:World}(h:HSim w0 φ H w){t:TypeId}{x k:VV}{x' k':Value}(hx:VR φ x x')(hk:VR φ k k')(ok:Bool):
  ROR φ w ((Instr.lookup t x' k' ok).run P w) (b5b P H t x k ok):=by
 unfold b5b;cases hu:P.underlying t with
 |none=>trivial
 |some d=>cases d with
  |map kt et=>
   simp only;cases hkt:P.underlying kt with
   |none=>trivial
   |some kd=>
    simp only;cases hkd:b6G kd k with
    |false=>trivial
    |true=>
     simp only
     have fin: ∀(es:List (VV×VV×Nat)) (es':List MapEntry),ERs φ es es'→(((Instr.lookup t x' k' ok).run P w=((do
        Instr.checkKey (⟨es'⟩:Array MapEntry).isEmpty 10000 kt k'
        let (v,ok')←match←Instr.findKey kt k' es' with
         |some (_,v)=>pure (v,true)|none=>pure (←zeroValue et,false)
        pure (if ok then .tuple #[v,.bool ok']else v):Sem Value).run P w)))→
       ROR φ w ((Instr.lookup t x' k' ok).run P w) (match b1A H.base k es 0 with
        |none=>.bad|some (some (_,v))=>.val (match ok with|true=>.tuple [v,.bool true]|false=>v)
        |some none=>match a2U P et with
         |none=>.bad
         |some z=>.val (match ok with|true=>.tuple [z,.bool false]|false=>z)):=by
      intro es es' hes hrun;rw[hrun];cases hf:b1A H.base k es 0 with
      |none=>trivial
      |some r=>
       obtain⟨r',k1,k2⟩:=a7b h.env hkd hk es es' 0 r hes hf;have hck: ∀e:Bool,(Instr.checkKey e 10000 kt k').run P w= .ok () w:=fun e=>run_checkKey (P:=P) (w:=w) hkt hkd hk e 9999;have hfk:(Instr.findKey kt k' es').run P w= .ok r' w:=by simp[Instr.findKey,run_underlying hkt,k1]
       cases r with
       |some jv=>
        obtain⟨j,v⟩:=jv;simp only at k2;obtain⟨v',rfl,k3⟩:=k2;simp only[ROR];cases ok with
        |true=>exact⟨.tuple #[v',.bool true],by simp[hck,hfk],by simp only[VR,VRs];exact⟨[v',.bool true],⟨v',_,rfl,k3,.bool true,[],rfl,rfl,rfl⟩,rfl⟩⟩
        |false=>exact⟨v',by simp[hck,hfk],k3⟩
       |none=>
        simp only at k2;subst k2;simp only;cases hz:a2U P et with
        |none=>trivial
        |some z=>
         obtain⟨z',z1,z2⟩:=a8B (P:=P) (w:=w) hz φ;simp only[ROR];cases ok with
         |true=>exact⟨.tuple #[z',.bool false],by simp[hck,hfk,z1],by simp only[VR,VRs];exact⟨[z',.bool false],⟨z',_,rfl,z2,.bool false,[],rfl,rfl,rfl⟩,rfl⟩⟩
         |false=>exact⟨z',by simp[hck,hfk,z1],z2⟩
     cases x with
     |map b=>cases b with
      |none=>simp only[VR]at hx;subst hx;refine fin [] [] rfl ?_;simp[Instr.lookup,run_underlying hu];rfl
      |some b=>
       simp only;cases hm:mapOf H b with
       |none=>trivial
       |some ec=>obtain⟨es,c⟩:=ec;simp only[VR]at hx;obtain⟨r,hb,rfl⟩:=hx;obtain⟨es',hw,he⟩:=b2P h hb hm;refine fin es es' he ?_;simp[Instr.lookup,run_underlying hu,run_getObj_map hw];rfl
     |_=>trivial
  |_=>trivial
def b8G(E:Env)(k:VV):List (VV×VV)→Option (Option VV)
 | []=>some none
 |e::es=>match a1w E k e.1 with
  |some true=>match b8G E k es with
   |some none=>some (some e.2)|_=>none
  |some false=>b8G E k es|none=>none
theorem a9S{E:Env}{k:VV}: ∀(es:List (VV×VV)) (r:Option VV),b8G E k es=some r→
  (∀e∈es,∃b,a1w E k e.1=some b)∧(es.filter fun e=>a1w E k e.1==some true).map (·.2)=r.toList
 | [],r,h=>by simp only[b8G,Option.some.injEq]at h;subst h;exact⟨by simp,rfl⟩
 |e::es,r,h=>by
  simp only[b8G]at h;cases hq:a1w E k e.1 with
  |none=>rw[hq]at h;cases h
  |some b=>
   rw[hq]at h;cases b with
   |true=>
    simp only at h;cases hf:b8G E k es with
    |none=>rw[hf]at h;cases h
    |some r'=>
     rw[hf]at h;cases r' with
     |some _=>cases h
     |none=>
      simp only[Option.some.injEq]at h;subst h;obtain⟨h1,h2⟩:=a9S es none hf;refine⟨?_, ?_⟩
      ·intro x hx;rcases List.mem_cons.1 hx with rfl|hx
       ·exact⟨true,hq⟩
       ·exact h1 x hx
      ·simp only[List.filter_cons,hq,beq_self_eq_true,if_true,List.map_cons,h2];rfl
   |false=>
    simp only at h;obtain⟨h1,h2⟩:=a9S es r h;refine⟨?_, ?_⟩
    ·intro x hx;rcases List.mem_cons.1 hx with rfl|hx
     ·exact⟨false,hq⟩
     ·exact h1 x hx
    ·simp only[List.filter_cons,hq];simpa using h2
theorem c2e[Ext]{E:Env}{w0:World}{φ:Phi}(he:EnvOK E φ w0){d:TypeDesc}{k:VV}{k':Value}(hd:b6G d k=true)(hk:VR φ k k'): ∀(l:List (VV×VV)) (es:List MapEntry) (i:Nat),EUs φ l es→(∀e∈l,∃b,a1w E k e.1=some b)→
  ∃r',Instr.findNow d k' es i=some r'∧(match(l.filter fun e=>a1w E k e.1==some true)with
   | []=>r'=none
   |e::_=> ∃j v',r'=some (j,v')∧VR φ e.2 v')
 | [],es,i,h,_=>by simp only[EUs]at h;subst h;exact⟨none,rfl,rfl⟩
 |e::l,es,i,h,hq=>by
  simp only[EUs]at h;obtain⟨y,ys,rfl,h1,h2,h5⟩:=h;obtain⟨b,hb⟩:=hq e (by simp);have hs:=a9D he hd hb hk h1;cases b with
  |true=>refine⟨some (i,y.val),by simp[Instr.findNow,hs], ?_⟩;simp only[List.filter_cons,hb,beq_self_eq_true,if_true];exact⟨i,y.val,rfl,h2⟩
  |false=>obtain⟨r',k1,k2⟩:=c2e he hd hk l ys (i+1) h5 fun e he=>hq e (by simp[he]);refine⟨r',by simp[Instr.findNow,hs,k1], ?_⟩;simp only[List.filter_cons,hb];simpa using k2
def b2k(P:Program)(H:VH)(t:TypeId)(es:List (VV×VV))(k:VV)(ok:Bool):RO:=
 match P.underlying t with
 |some (.map kt et)=>match P.underlying kt with
  |some kd=>match b6G kd k with
   |false=>.bad
   |true=>match b8G H.base k es with
    |none=>.bad|some (some v)=>.val (match ok with|true=>.tuple [v,.bool true]|false=>v)
    |some none=>match a2U P et with
     |none=>.bad|some z=>.val (match ok with|true=>.tuple [z,.bool false]|false=>z)
  |none=>.bad
 |_=>.bad
theorem b2j[Ext]{P:Program}{w0:World}{φ:Phi}{H:VH}{w:World}(h:HSim w0 φ H w){t:TypeId}{x k:VV}{x' k':Value}(hx:VR φ x x'){es:List (VV×VV)}(hm:b2O H x=some es)(hk:VR φ k k')(ok:Bool):
  ROR φ w ((Instr.lookup t x' k' ok).run P w) (b2k P H t es k ok):=by
 unfold b2k;cases hu:P.underlying t with
 |none=>trivial
 |some d=>cases d with
  |map kt et=>
   simp only;cases hkt:P.underlying kt with
   |none=>trivial
   |some kd=>
    simp only;cases hkd:b6G kd k with
    |false=>trivial
    |true=>
     simp only;obtain⟨r,es',c,l,rfl,hw,hp,he⟩:=b0A h hx hm;have hck: ∀e:Bool,(Instr.checkKey e 10000 kt k').run P w= .ok () w:=fun e=>run_checkKey (P:=P) (w:=w) hkt hkd hk e 9999;cases hf:b8G H.base k es with
     |none=>trivial
     |some rr=>
      obtain⟨f1,f2⟩:=a9S es rr hf;obtain⟨r',k1,k2⟩:=c2e h.env hkd hk l es' 0 he fun e hel=>f1 e (hp.mem_iff.1 hel)
      have hfp:(l.filter fun e=>a1w H.base k e.1==some true).map (·.2)=rr.toList:=by
       have hpp:=(hp.filter fun e=>a1w H.base k e.1==some true).map (·.2);rw[f2]at hpp;cases rr with
       |none=>exact List.Perm.eq_nil hpp
       |some v=>exact List.perm_singleton.1 hpp
      have hfk:(Instr.findKey kt k' es').run P w= .ok r' w:=by simp[Instr.findKey,run_underlying hkt,k1]
      have hrun:(Instr.lookup t (.map (some r)) k' ok).run P w=((do
        Instr.checkKey (⟨es'⟩:Array MapEntry).isEmpty 10000 kt k'
        let (v,ok')←match←Instr.findKey kt k' es' with
         |some (_,v)=>pure (v,true)|none=>pure (←zeroValue et,false)
        pure (if ok then .tuple #[v,.bool ok']else v):Sem Value).run P w):=by
       simp only[Instr.lookup,Sem.run_bind,run_underlying hu,Result.andThen_ok,run_getObj_map hw];rfl
      rw[hrun];cases rr with
      |some v=>
       simp only;cases hl:(l.filter fun e=>a1w H.base k e.1==some true)with
       |nil=>rw[hl]at hfp;cases hfp
       |cons e rest=>
        rw[hl]at hfp k2;simp only at k2;obtain⟨j,v',rfl,k3⟩:=k2;have ev:e.2=v:=by simp only[List.map_cons,Option.toList,List.cons.injEq]at hfp;exact hfp.1
        rw[ev]at k3;simp only[ROR];cases ok with
        |true=>exact⟨.tuple #[v',.bool true],by simp[hck,hfk],by simp only[VR,VRs];exact⟨[v',.bool true],⟨v',_,rfl,k3,.bool true,[],rfl,rfl,rfl⟩,rfl⟩⟩
        |false=>exact⟨v',by simp[hck,hfk],k3⟩
      |none=>
       simp only;have hl:(l.filter fun e=>a1w H.base k e.1==some true)= []:=by simpa using hfp
       rw[hl]at k2;simp only at k2;subst k2;cases hz:a2U P et with
       |none=>trivial
       |some z=>
        obtain⟨z',z1,z2⟩:=a8B (P:=P) (w:=w) hz φ;simp only[ROR];cases ok with
        |true=>exact⟨.tuple #[z',.bool false],by simp[hck,hfk,z1],by simp only[VR,VRs];exact⟨[z',.bool false],⟨z',_,rfl,z2,.bool false,[],rfl,rfl,rfl⟩,rfl⟩⟩
        |false=>exact⟨z',by simp[hck,hfk,z1],z2⟩
  |_=>trivial
end
end Go.Ev
