/- Engine, part D: slicing, operators, equality, conversions, maps: operations that only read. -/
import Derived.Test.YtcblehiddfnafaaEvC
import Derived.ChangeKeysEq
import Derived.Laws.BytesString
namespace Go.Ev
noncomputable section
def a0b(d:Nat):Option VV→Option Int
 |none=>some d
 |some (.int _ n)=>some n
 |some _=>none
def a4f(e:Nat)(a:Option VA)(len cap:Nat)(lo hi:Option VV):RO:=
 match a0b 0 lo,a0b len hi with
 |some l,some h=>.chk (decide (0≤l)) (.chk (decide (l≤h)) (.chk (decide (h≤cap)) (match a with
  |none=>.val (.slice none (h.toNat-l.toNat) (cap-l.toNat))
  |some a=>.ite (Nat.beq l.toNat cap) (.val .sliceE) (.val (.slice (some (a.add (l.toNat*e))) (h.toNat-l.toNat) (cap-l.toNat))))))
 |_,_=>.bad
def a2u(H:VH):VB→Bool
 |.base _=>true
 |.sym _=>false
 |.loc i=>match H.locs.get i with
  |some (.cells _ none _)=>true
  |_=>false
def b0W(P:Program)(H:VH)(t:TypeId)(x:VV)(lo hi:Option VV):RO:=
 match P.underlying t,x with
 |some (.slice e),.slice a len cap=>match P.info? e with
  |some i=>a4f i.size a len cap lo hi
  |none=>.bad
 |some (.slice e),.sliceE=>match P.info? e,a0b 0 lo,a0b 0 hi with
  |some _,some (.ofNat 0),some (.ofNat 0)=>.val .sliceE
  |_,_,_=>.bad
 |some (.array n e),.ptr (some a)=>match P.info? e,a2u H a.b with
  |some i,true=>a4f i.size (some a) n n lo hi
  |_,_=>.bad
 |some .string,.string s=>match a0b 0 lo,a0b s.size hi with
  |some l,some h=>.chk (decide (0≤l)) (.chk (decide (l≤h)) (.chk (decide (h≤s.size)) (.val (.string (s.extract l.toNat h.toNat)))))
  |_,_=>.bad
 |_,_=>.bad
theorem a2E{w0:World}{φ:Phi}{H:VH}{w:World}(h:HSim w0 φ H w){a:VA}{a':Addr}{s:Nat}(ha:AR φ a a' s)(hf:a2u H a.b=true):s=0:=by
 unfold AR at ha
 unfold a2u at hf
 cases hb:a.b with
 |base r=>rw[hb]at ha;exact ha.2
 |sym r=>rw[hb]at ha;exact ha.2
 |loc i=>
  rw[hb]at ha hf
  simp only at hf
  obtain⟨inf,h1,_,rfl⟩:=ha
  cases hg:H.locs.get i with
  |none=>rw[hg]at hf;simp at hf
  |some o=>
   rw[hg]at hf
   obtain⟨inf',o',h2,_,h3,_⟩:=h.live i o hg
   rw[h1]at h2;cases h2
   cases o with
   |cells c g ro=>
    cases g with
    |none=>obtain⟨c',e,fr,_,hc⟩:=h3;exact hc.fixed rfl
    |some z=>simp at hf
   |_=>simp at hf
def OVR(φ:Phi):Option VV→Option Value→Prop
 |none,o=>o=none
 |some x,o=> ∃v,o=some v∧VR φ x v
theorem run_sliceBound{P:Program}{w:World}(k:IntKind)(i:Int)(y:Nat)(c:BoundsCode)(h0:0≤i)(h1:i≤y):(Instr.sliceBound (.int k i) y c).run P w= .ok i.toNat w:=by
 simp[Instr.sliceBound,asIntOf,h0,h1]
theorem a1w{φ:Phi}{d:Nat}{o:Option VV}{o':Option Value}(ho:OVR φ o o'){l:Int}(h:a0b d o=some l):(o=none∧o'=none∧l=d)∨ ∃k,o'=some (.int k l):=by
 cases o with
 |none=>simp only[OVR]at ho;simp only[a0b,Option.some.injEq]at h;exact .inl ⟨rfl,ho,h.symm⟩
 |some x=>
  obtain⟨v,rfl,hv⟩:=ho
  cases x<;>simp[a0b]at h
  subst h
  simp only[VR]at hv
  subst hv
  exact .inr ⟨_,rfl⟩
theorem a1U{P:Program}{w:World}{φ:Phi}(sl:Bool){len cap:Nat}{lo hi:Option VV}{lo' hi':Option Value}(hlo:OVR φ lo lo')(hhi:OVR φ hi hi'){l h:Int}
  (el:a0b 0 lo=some l) (eh:a0b len hi=some h) (h0:0≤l) (h1:l≤h) (h2:h≤cap):
  (Instr.sliceBounds sl len cap lo' hi' none).run P w= .ok (l.toNat,h.toNat,cap) w:=by
 unfold Instr.sliceBounds
 rcases a1w hlo el with⟨_,rfl,hl⟩|⟨k,rfl⟩<;>rcases a1w hhi eh with⟨_,rfl,hh⟩|⟨k',rfl⟩
 ·subst hl;subst hh;simp
 ·subst hl
  have:=run_sliceBound (P:=P) (w:=w) k' h cap (if sl then .sliceAcap else .sliceAlen) (by omega) h2
  simp only[Sem.run_bind,Sem.run_pure,Result.andThen_ok,this]
  rfl
 ·subst hh
  have:=run_sliceBound (P:=P) (w:=w) k l len .sliceB h0 (by omega)
  simp[this]
 ·have e1:=run_sliceBound (P:=P) (w:=w) k' h cap (if sl then .sliceAcap else .sliceAlen) (by omega) h2
  have e2:=run_sliceBound (P:=P) (w:=w) k l h.toNat .sliceB h0 (by omega)
  simp only[Sem.run_bind,Sem.run_pure,Result.andThen_ok,e1]
  simp[e2]
theorem a3L{P:Program}{φ:Phi}{w:World}{e:Nat}{a:Option VA}{len cap:Nat}{lo hi:Option VV}{lo' hi':Option Value}(hlo:OVR φ lo lo')(hhi:OVR φ hi hi')
  (sl:Bool) (v':Value) (hv:VR φ (.slice a len cap) v') (x':Result Value)
  (hrun: ∀(a':Option Addr) (cap':Nat),v'= .slice a' len cap'→ ∀l h,(Instr.sliceBounds sl len cap' lo' hi' none).run P w= .ok (l,h,cap') w→x'= .ok (.slice (if cap'=l then a' else a'.map (·.add (l*e))) (h-l) (cap'-l)) w):
  ROR φ w x' (a4f e a len cap lo hi):=by
 unfold a4f
 cases hl:a0b 0 lo with
 |none=>trivial
 |some l=>cases hh:a0b len hi with
  |none=>trivial
  |some h=>
   simp only[ROR]
   intro h0 h1 h2
   have h0':=of_decide_eq_true h0
   have h1':=of_decide_eq_true h1
   have h2':=of_decide_eq_true h2
   cases a with
   |none=>
    simp only[VR]at hv
    have:=hrun none cap hv _ _ (a1U sl hlo hhi hl hh h0' h1' h2')
    simp only[ROR]
    refine⟨.slice none (h.toNat-l.toNat) (cap-l.toNat), ?_,by simp only[VR]⟩
    rw[this]
    simp
   |some a=>
    simp only[VR]at hv
    obtain⟨a',s,ha,hv⟩:=hv
    have hr:=hrun (some a') (cap+s) hv _ _ (a1U sl hlo hhi hl hh h0' h1' (by omega))
    simp only[ROR]
    refine⟨fun hc=> ?_,fun hc=> ?_⟩
    ·have hc':l.toNat=cap:=Nat.eq_of_beq_eq_true hc
     refine⟨_,hr, ?_⟩
     have e0:h.toNat-l.toNat=0:=by omega
     rw[e0]
     simp only[VR]
     by_cases hx:cap+s=l.toNat
     ·rw[if_pos hx];exact⟨_,_,rfl⟩
     ·rw[if_neg hx];exact⟨_,_,rfl⟩
    ·have hc':l.toNat≠cap:=by intro e';rw[e']at hc;simp at hc
     refine⟨_,hr, ?_⟩
     rw[if_neg (by omega)]
     simp only[VR]
     refine⟨a'.add (l.toNat*e),s,ha.add _, ?_⟩
     simp only[Option.map_some]
     rw[show cap+s-l.toNat=cap-l.toNat+s by omega]
theorem a8J{P:Program}{w0:World}{φ:Phi}{H:VH}{w:World}(hs:HSim w0 φ H w){t:TypeId}{x:VV}{x':Value}(hx:VR φ x x'){lo hi:Option VV}{lo' hi':Option Value}(hlo:OVR φ lo lo')(hhi:OVR φ hi hi'):
  ROR φ w ((Instr.sliceAt t x' lo' hi' none).run P w) (b0W P H t x lo hi):=by
 unfold b0W
 cases hu:P.underlying t with
 |none=>trivial
 |some d=>cases d with
  |slice e=>cases x with
   |slice a len cap=>
    simp only
    cases he:P.info? e with
    |none=>trivial
    |some i=>
     simp only
     refine a3L (P:=P) hlo hhi true x' hx _ ?_
     intro a' cap' hv l h hb
     subst hv
     simp[Instr.sliceAt,Instr.slice,run_underlying hu,hb,a0H he,a2b,he]
   |sliceE=>
    simp only
    cases he:P.info? e with
    |none=>trivial
    |some i=>cases hl:a0b 0 lo with
     |none=>trivial
     |some l=>cases hh:a0b 0 hi with
      |none=>cases l with
       |ofNat n=>cases n<;>trivial
       |negSucc n=>trivial
      |some h=>cases l with
       |negSucc n=>trivial
       |ofNat n=>cases n with
        |succ n=>trivial
        |zero=>cases h with
         |negSucc n=>trivial
         |ofNat m=>cases m with
          |succ m=>trivial
          |zero=>
           simp only[VR]at hx
           obtain⟨a',c,rfl⟩:=hx
           have hb:=a1U (P:=P) (w:=w) true (len:=0) (cap:=c) hlo hhi hl hh (by simp) (by simp) (by simp)
           simp only[ROR]
           refine⟨.slice (if c=0 then some a' else(some a').map (·.add (0*a2b P e))) 0 c, ?_, ?_⟩
           ·simp[Instr.sliceAt,Instr.slice,run_underlying hu,hb,a0H he]
           ·simp only[VR];split<;>exact⟨_,_,rfl⟩
   |_=>trivial
  |array n e=>cases x with
   |ptr p=>cases p with
    |none=>trivial
    |some a=>
     simp only
     cases he:P.info? e with
     |none=>trivial
     |some i=>cases hf:a2u H a.b with
      |false=>trivial
      |true=>
       simp only
       simp only[VR]at hx
       obtain⟨a',s,ha,rfl⟩:=hx
       have hs0:=a2E hs ha hf
       subst hs0
       refine a3L (P:=P) (a:=some a) (len:=n) (cap:=n) hlo hhi false (.slice (some a') n n) (by simp only[VR];exact⟨a',0,ha,rfl⟩) _ ?_
       intro a'' cap' hv l h hb
       simp only[Value.slice.injEq]at hv
       obtain⟨rfl,_,rfl⟩:=hv
       simp[Instr.sliceAt,run_underlying hu,Instr.sureAddr,hb,a0H he,a2b,he]
       split<;>rfl
   |_=>trivial
  |string=>cases x with
   |string s=>
    simp only
    cases hl:a0b 0 lo with
    |none=>trivial
    |some l=>cases hh:a0b s.size hi with
     |none=>trivial
     |some h=>
      simp only[ROR]
      intro h0 h1 h2
      have hb:=a1U (P:=P) (w:=w) false hlo hhi hl hh (of_decide_eq_true h0) (of_decide_eq_true h1) (of_decide_eq_true h2)
      simp only[VR]at hx
      subst hx
      refine⟨.string (s.extract l.toNat h.toNat), ?_,by simp[VR]⟩
      simp[Instr.sliceAt,Instr.slice,run_underlying hu,hb]
   |_=>trivial
  |_=>cases x<;>trivial
def a8K(P:Program)(H:VH)(t:TypeId)(x:VV)(lo hi:Option VV)(mx:VV):RO:=
 match P.underlying t,x with
 |some (.slice e),.slice a len cap=>match P.info? e,hi,a0b 0 lo,a0b len hi,a0b 0 (some mx)with
  |some i,some _,some l,some h,some m=>.chk (decide (0≤l)) (.chk (decide (l≤h)) (.chk (decide (h≤m)) (.chk (decide (m≤cap)) (match a with
   |none=>.val (.slice none (h.toNat-l.toNat) (m.toNat-l.toNat))
   |some a=>match a2u H a.b with
    |true=>.ite (Nat.beq l.toNat m.toNat) (.val .sliceE) (.val (.slice (some (a.add (l.toNat*i.size))) (h.toNat-l.toNat) (m.toNat-l.toNat)))
    |false=>.val .any))))
  |_,_,_,_,_=>.bad
 |_,_=>.bad
theorem a3A{P:Program}{w:World}{φ:Phi}(sl:Bool){len cap:Nat}{lo:Option VV}{hi mx:VV}{lo':Option Value}{hi' mx':Value}(hlo:OVR φ lo lo')(hhi:VR φ hi hi')(hmx:VR φ mx mx'){l h m:Int}
  (el:a0b 0 lo=some l) (eh:a0b len (some hi)=some h) (em:a0b 0 (some mx)=some m) (h0:0≤l) (h1:l≤h) (h2:h≤m) (h3:m≤cap):
  (Instr.sliceBounds sl len cap lo' (some hi') (some mx')).run P w= .ok (l.toNat,h.toNat,m.toNat) w:=by
 unfold Instr.sliceBounds
 rcases a1w (φ:=φ) (o:=some hi) (o':=some hi') ⟨hi',rfl,hhi⟩ eh with⟨e,_⟩|⟨k',e'⟩
 ·cases e
 rcases a1w (φ:=φ) (o:=some mx) (o':=some mx') ⟨mx',rfl,hmx⟩ em with⟨e,_⟩|⟨k2,e2⟩
 ·cases e
 cases e';cases e2
 have r1:=run_sliceBound (P:=P) (w:=w) k2 m cap (if sl then .slice3Acap else .slice3Alen) (by omega) h3
 have r2:=run_sliceBound (P:=P) (w:=w) k' h m.toNat .slice3B (by omega) (by omega)
 rcases a1w hlo el with⟨_,rfl,hl⟩|⟨k,rfl⟩
 ·subst hl
  simp only[Sem.run_bind,Sem.run_pure,Result.andThen_ok,r1,r2]
  rfl
 ·have r3:=run_sliceBound (P:=P) (w:=w) k l h.toNat .slice3C h0 (by omega)
  simp only[Sem.run_bind,Sem.run_pure,Result.andThen_ok,r1,r2]
  simp[r3]
theorem a7D{P:Program}{w0:World}{φ:Phi}{H:VH}{w:World}(hs:HSim w0 φ H w){t:TypeId}{x:VV}{x':Value}(hx:VR φ x x'){lo hi:Option VV}{lo' hi':Option Value}(hlo:OVR φ lo lo')(hhi:OVR φ hi hi'){mx:VV}{mx':Value}(hm:VR φ mx mx'):
  ROR φ w ((Instr.sliceAt t x' lo' hi' (some mx')).run P w) (a8K P H t x lo hi mx):=by
 unfold a8K
 cases hu:P.underlying t with
 |none=>trivial
 |some d=>cases d with
  |slice e=>cases x with
   |slice a len cap=>
    simp only
    cases he:P.info? e with
    |none=>trivial
    |some i=>cases hi with
     |none=>trivial
     |some hv=>cases el:a0b 0 lo with
      |none=>trivial
      |some l=>cases eh:a0b len (some hv)with
       |none=>trivial
       |some h=>cases em:a0b 0 (some mx)with
        |none=>trivial
        |some m=>
         simp only[ROR]
         intro g0 g1 g2 g3
         have g0':=of_decide_eq_true g0
         have g1':=of_decide_eq_true g1
         have g2':=of_decide_eq_true g2
         have g3':=of_decide_eq_true g3
         obtain⟨hv',rfl,hhv⟩:=hhi
         cases a with
         |none=>
          simp only[VR]at hx
          subst hx
          have hb:=a3A (P:=P) (w:=w) true hlo hhv hm el eh em g0' g1' g2' g3'
          simp only[ROR]
          refine⟨.slice none (h.toNat-l.toNat) (m.toNat-l.toNat), ?_,by simp only[VR]⟩
          simp[Instr.sliceAt,Instr.slice,run_underlying hu,hb,a0H he]
         |some a=>
          simp only[VR]at hx
          obtain⟨a',s,ha,rfl⟩:=hx
          have hb:=a3A (P:=P) (w:=w) true (cap:=cap+s) hlo hhv hm el eh em g0' g1' g2' (by omega)
          have hr:(Instr.sliceAt t (.slice (some a') len (cap+s)) lo' (some hv') (some mx')).run P w= .ok (.slice (if m.toNat=l.toNat then some a' else some (a'.add (l.toNat*i.size))) (h.toNat-l.toNat) (m.toNat-l.toNat)) w:=by
           simp[Instr.sliceAt,Instr.slice,run_underlying hu,hb,a0H he,a2b,he]
          cases hf:a2u H a.b with
          |false=>simp only[hf,ROR];exact⟨_,hr,by simp only[VR]⟩
          |true=>
           have hs0:=a2E hs ha hf
           simp only[hf,ROR]
           refine⟨fun hc=> ?_,fun hc=> ?_⟩
           ·have hc':l.toNat=m.toNat:=Nat.eq_of_beq_eq_true hc
            refine⟨_,hr, ?_⟩
            rw[if_pos hc'.symm,show h.toNat-l.toNat=0 by omega]
            simp only[VR]
            exact⟨_,_,rfl⟩
           ·have hc':l.toNat≠m.toNat:=by intro e';rw[e']at hc;simp at hc
            refine⟨_,hr, ?_⟩
            rw[if_neg (fun e=>hc' e.symm)]
            simp only[VR]
            exact⟨_,s,ha.add _,by rw[hs0];rfl⟩
   |_=>trivial
  |_=>cases x<;>trivial
def a8c:List UInt8→List UInt8→Bool
 | [],[]=>true
 |x::a,y::b=>match Nat.beq x.toNat y.toNat with|true=>a8c a b|false=>false
 |_,_=>false
theorem a5I: ∀(a b:List UInt8),a8c a b=(a==b)
 | [],[]=>rfl
 | [],_::_=>rfl
 |_::_,[]=>rfl
 |x::a,y::b=>by
  simp only[a8c]
  cases h:Nat.beq x.toNat y.toNat with
  |true=>
   have e:x=y:=UInt8.toNat_inj.1 (Nat.eq_of_beq_eq_true h)
   subst e
   simp[a5I a b]
  |false=>
   have e:x≠y:=by intro e;subst e;simp at h
   simp[e]
def a6w(a b:ByteArray):Bool:=a8c a.data.toList b.data.toList
theorem a5e(a b:ByteArray):a6w a b=(a.toList==b.toList):=by
 unfold a6w
 rw[a5I,ByteArray.toList_eq,ByteArray.toList_eq]
def a9E(E:Env):VV→Option (IntKind×Int×Int)
 |.int k n=>some (k,n,n)
 |.sint k i=>match E.ivl i with|(l,h)=>some (k,l,h)
 |_=>none
theorem a2s{E:Env}{φ:Phi}{w0:World}(he:EnvOK E φ w0){x:VV}{k:IntKind}{l h:Int}(hi:a9E E x=some (k,l,h)){x':Value}(hx:VR φ x x'):
  ∃n,x'= .int k n∧l≤n∧n≤h∧a4p φ.ρ x=some (.int k n):=by
 cases x with
 |int k' n=>simp only[a9E,Option.some.injEq,Prod.mk.injEq]at hi;obtain⟨rfl,rfl,rfl⟩:=hi;simp only[VR]at hx;exact⟨n,hx,Int.le_refl _,Int.le_refl _,rfl⟩
 |sint k' i=>
  have:=he.ivl i
  simp only[a9E]at hi
  simp only[Option.some.injEq,Prod.mk.injEq]at hi
  obtain⟨rfl,rfl,rfl⟩:=hi
  simp only[VR]at hx
  exact⟨_,hx,this.1,this.2,rfl⟩
 |_=>simp[a9E]at hi
def b4j(E:Env)(op:BinOp)(x y:VV):Option Bool:=match a3K op x y E.tab with
 |some (.bool b)=>some b
 |_=>none
theorem a6g{E:Env}{φ:Phi}{w0:World}(he:EnvOK E φ w0){op:BinOp}{x y:VV}{r:Bool}(hf:b4j E op x y=some r){a b:Value}(hx:a4p φ.ρ x=some a)(hy:a4p φ.ρ y=some b):
  ∀(P:Program) (t:TypeId) (w:World),(binOp op t a b).run P w= .ok (.bool r) w:=by
 unfold b4j at hf
 split at hf
 ·rename_i b' hb'
  simp only[Option.some.injEq]at hf
  subst hf
  obtain⟨a1,b1,v,h1,h2,h3,_,_,h4⟩:=he.tab _ (a2Q hb')
  rw[hx]at h1;cases h1
  rw[hy]at h2;cases h2
  simp only[a4p,Option.some.injEq]at h3
  subst h3
  exact h4
 ·cases hf
def a5L(E:Env)(x y:VV):Option Bool:=
 match a9E E x,a9E E y with
 |some (k,l,h),some (k',l',h')=>match kEq k k' with
  |false=>none
  |true=>match decide (h<l')with
   |true=>some true
   |false=>match decide (h'≤l)with
    |true=>some false
    |false=>match sEq x y with
     |true=>some false
     |false=>b4j E .lss x y
 |_,_=>none
def a5N(E:Env)(x y:VV):Option Bool:=
 match a9E E x,a9E E y with
 |some (k,l,h),some (k',l',h')=>match kEq k k' with
  |false=>none
  |true=>match decide (h<l')with
   |true=>some false
   |false=>match decide (h'<l)with
    |true=>some false
    |false=>match sEq x y with
     |true=>some true
     |false=>match decide (h≤l'),decide (h'≤l)with
      |true,true=>some true
      |_,_=>b4j E .eql x y
 |_,_=>none
theorem a0w{E:Env}{φ:Phi}{w0:World}(he:EnvOK E φ w0){x y:VV}{r:Bool}(hs:a5L E x y=some r){x' y':Value}(hx:VR φ x x')(hy:VR φ y y'):
  ∃k a b,x'= .int k a∧y'= .int k b∧r=decide (a<b):=by
 unfold a5L at hs
 split at hs
 ·rename_i k l h k' l' h' e1 e2
  obtain⟨a,rfl,a1,a2,sa⟩:=a2s he e1 hx
  obtain⟨b,rfl,b1,b2,sb⟩:=a2s he e2 hy
  cases hk:kEq k k' with
  |false=>rw[hk]at hs;cases hs
  |true=>
   rw[hk]at hs
   have ek:k=k':=of_decide_eq_true hk
   subst ek
   refine⟨k,a,b,rfl,rfl, ?_⟩
   simp only at hs
   split at hs
   ·rename_i h1;have:=of_decide_eq_true h1;simp only[Option.some.injEq]at hs;subst hs;symm;rw[decide_eq_true_eq];omega
   ·split at hs
    ·rename_i h1;have:=of_decide_eq_true h1;simp only[Option.some.injEq]at hs;subst hs;symm;rw[decide_eq_false_iff_not];omega
    ·split at hs
     ·rename_i h1
      have:=a6A h1;subst this
      rw[sa]at sb;cases sb
      simp only[Option.some.injEq]at hs;subst hs;symm;rw[decide_eq_false_iff_not];omega
     ·have:=a6g he hs sa sb default 0 default
      simp[binOp,Op.intCmp]at this
      exact this.symm
 ·cases hs
theorem a0x{E:Env}{φ:Phi}{w0:World}(he:EnvOK E φ w0){x y:VV}{r:Bool}(hs:a5N E x y=some r){x' y':Value}(hx:VR φ x x')(hy:VR φ y y'):
  ∃k a b,x'= .int k a∧y'= .int k b∧r=(a==b):=by
 unfold a5N at hs
 split at hs
 ·rename_i k l h k' l' h' e1 e2
  obtain⟨a,rfl,a1,a2,sa⟩:=a2s he e1 hx
  obtain⟨b,rfl,b1,b2,sb⟩:=a2s he e2 hy
  cases hk:kEq k k' with
  |false=>rw[hk]at hs;cases hs
  |true=>
   rw[hk]at hs
   have ek:k=k':=of_decide_eq_true hk
   subst ek
   refine⟨k,a,b,rfl,rfl, ?_⟩
   simp only at hs
   split at hs
   ·rename_i h1;have:=of_decide_eq_true h1;simp only[Option.some.injEq]at hs;subst hs;symm;rw[beq_eq_false_iff_ne];omega
   ·split at hs
    ·rename_i h1;have:=of_decide_eq_true h1;simp only[Option.some.injEq]at hs;subst hs;symm;rw[beq_eq_false_iff_ne];omega
    ·split at hs
     ·rename_i h1
      have:=a6A h1;subst this
      rw[sa]at sb;cases sb
      simp only[Option.some.injEq]at hs;subst hs;simp
     ·split at hs
      ·rename_i h1 h2
       have:=of_decide_eq_true h1
       have:=of_decide_eq_true h2
       simp only[Option.some.injEq]at hs;subst hs;symm;rw[beq_iff_eq];omega
      ·have:=a6g he hs sa sb default 0 default
       simp[binOp,Op.intCmp]at this
       exact this.symm
 ·cases hs
def b6g(teq:TypeId→VV→VV→Option Bool)(P:Program)(xs ys:List VV):List Field→Option Bool
 | []=>some true
 |f::fs=>match decide (f.name= "_")with
  |true=>none
  |false=>match a5Y P f.type xs f.offset,a5Y P f.type ys f.offset with
   |some a,some b=>match teq f.type a b with
    |some true=>b6g teq P xs ys fs
    |r=>r
   |_,_=>none
def b6f(teq:TypeId→VV→VV→Option Bool)(P:Program)(e:TypeId)(sz:Nat)(xs ys:List VV):Nat→Nat→Option Bool
 |0,_=>some true
 |n+1,i=>match a5Y P e xs (i*sz),a5Y P e ys (i*sz)with
  |some a,some b=>match teq e a b with
   |some true=>b6f teq P e sz xs ys n (i+1)
   |r=>r
  |_,_=>none
def teq(P:Program)(E:Env):Nat→TypeId→VV→VV→Option Bool
 |0,_,_,_=>none
 |d+1,t,x,y=>
  match P.underlying t with
  |some .bool=>match x with
   |.bool a=>match y with
    |.bool b=>some (a==b)
    |_=>none
   |_=>none
  |some (.int _)=>match x with
   |.int k a=>match y with
    |.int k' b=>match decide (k=k')with|true=>some (a==b)|false=>none
    |.sint _ _=>a5N E x y
    |_=>none
   |.sint _ _=>a5N E x y
   |_=>none
  |some .string=>match x with
   |.string a=>match y with
    |.string b=>some (a6w a b)
    |_=>none
   |_=>none
  |some (.pointer _)=>match x with
   |.ptr p=>match y with
    |.ptr q=>match p,q with
     |none,none=>some true
     |none,some _=>some false
     |some _,none=>some false
     |some _,some _=>none
    |_=>none
   |_=>none
  |some (.interface _)=>match x with
   |.nilIface=>match y with
    |.nilIface=>some true
    |.iface _ _=>some false
    |_=>none
   |.iface tx vx=>match y with
    |.nilIface=>some false
    |.iface ty vy=>match Nat.beq tx ty with
     |false=>some false
     |true=>match P.info? tx with
      |some i=>match i.comparable with
       |true=>teq P E d tx vx vy
       |false=>none
      |none=>none
    |_=>none
   |_=>none
  |some (.struct fs)=>match x with
   |.agg xs=>match y with
    |.agg ys=>match P.stoodInHeld t with
     |true=>none
     |false=>b6g (teq P E d) P xs ys fs.toList
    |_=>none
   |_=>none
  |some (.array n e)=>match x with
   |.agg xs=>match y with
    |.agg ys=>match P.info? e with
     |some i=>b6f (teq P E d) P e i.size xs ys n 0
     |none=>none
    |_=>none
   |_=>none
  |some (.slice _)=>match x with
   |.slice p _ _=>match y with
    |.slice q _ _=>match p,q with
     |none,none=>some true
     |none,some _=>some false
     |some _,none=>some false
     |some _,some _=>none
    |.sliceE=>match p with
     |none=>some false
     |some _=>none
    |_=>none
   |.sliceE=>match y with
    |.slice none _ _=>some false
    |_=>none
   |_=>none
  |some (.map _ _)=>match x with
   |.map p=>match y with
    |.map q=>match p,q with
     |none,none=>some true
     |none,some _=>some false
     |some _,none=>some false
     |some _,some _=>none
    |_=>none
   |_=>none
  |some (.func _ _ _)=>match x with
   |.nilFunc=>match y with
    |.nilFunc=>some true
    |.func _ _ _=>some false
    |_=>none
   |.func _ _ _=>match y with
    |.nilFunc=>some false
    |_=>none
   |_=>none
  |_=>none
def TEq(P:Program)(φ:Phi)(d:Nat)(f:TypeId→VV→VV→Option Bool):Prop:=
 ∀(t:TypeId) (x y:VV) (r:Bool),f t x y=some r→ ∀(x' y':Value) (w:World),VR φ x x'→VR φ y y'→(Op.equalIn d t x' y').run P w= .ok r w
theorem b1U{P:Program}{φ:Phi}{d:Nat}{f:TypeId→VV→VV→Option Bool}(hf:TEq P φ d f){xs ys:List VV}{xs' ys':List Value}(hx:VRs φ xs xs')(hy:VRs φ ys ys')(w:World):
  ∀(fs:List Field) (r:Bool),b6g f P xs ys fs=some r→(Op.eqFields d ⟨xs'⟩ ⟨ys'⟩ fs).run P w= .ok r w:=by
 intro fs
 induction fs with
 |nil=>intro r h;simp only[b6g,Option.some.injEq]at h;subst h;rfl
 |cons fd fs ih=>
  intro r h
  simp only[b6g]at h
  cases hn:decide (fd.name= "_")with
  |true=>rw[hn]at h;simp at h
  |false=>
   rw[hn]at h
   simp only at h
   have hn':fd.name≠ "_":=of_decide_eq_false hn
   cases ha:a5Y P fd.type xs fd.offset with
   |none=>rw[ha]at h;simp at h
   |some a=>cases hb:a5Y P fd.type ys fd.offset with
    |none=>rw[ha,hb]at h;simp at h
    |some b=>
     rw[ha,hb]at h
     simp only at h
     cases he:f fd.type a b with
     |none=>rw[he]at h;simp at h
     |some q=>
      rw[he]at h
      obtain⟨a',r1,v1⟩:=a1e (w:=w) hx ha
      obtain⟨b',r2,v2⟩:=a1e (w:=w) hy hb
      have r3:=hf _ _ _ _ he a' b' w v1 v2
      simp only[Op.eqFields,hn',ne_eq,not_false_eq_true,if_true,Sem.run_bind,r1,Result.andThen_ok,r2,r3]
      cases q
      ·simp only[Option.some.injEq]at h;subst h;simp
      ·simp only at h;simp[ih r h]
theorem b1T{P:Program}{φ:Phi}{d:Nat}{f:TypeId→VV→VV→Option Bool}(hf:TEq P φ d f){e:TypeId}{xs ys:List VV}{xs' ys':List Value}(hx:VRs φ xs xs')(hy:VRs φ ys ys')(w:World)(sz:Nat):
  ∀(n i:Nat) (r:Bool),b6f f P e sz xs ys n i=some r→(Op.eqItems d e sz ⟨xs'⟩ ⟨ys'⟩ (List.range' i n)).run P w= .ok r w:=by
 intro n
 induction n with
 |zero=>intro i r h;simp only[b6f,Option.some.injEq]at h;subst h;rfl
 |succ n ih=>
  intro i r h
  simp only[b6f]at h
  cases ha:a5Y P e xs (i*sz)with
  |none=>rw[ha]at h;simp at h
  |some a=>cases hb:a5Y P e ys (i*sz)with
   |none=>rw[ha,hb]at h;simp at h
   |some b=>
    rw[ha,hb]at h
    simp only at h
    cases he:f e a b with
    |none=>rw[he]at h;simp at h
    |some q=>
     rw[he]at h
     obtain⟨a',r1,v1⟩:=a1e (w:=w) hx ha
     obtain⟨b',r2,v2⟩:=a1e (w:=w) hy hb
     have r3:=hf _ _ _ _ he a' b' w v1 v2
     simp only[List.range'_succ,Op.eqItems,Sem.run_bind,r1,Result.andThen_ok,r2,r3]
     cases q
     ·simp only[Option.some.injEq]at h;subst h;simp
     ·simp only at h;simp[ih (i+1) r h]
set_option maxHeartbeats 2000000 in
theorem b2O{P:Program}{E:Env}{w0:World}{φ:Phi}(he:EnvOK E φ w0): ∀(d k:Nat),TEq P φ (d+k) (teq P E d):=by
 intro d
 induction d with
 |zero=>intro k t x y r h;simp[teq]at h
 |succ d ih=>
  intro k t x y r h x' y' w hx hy
  rw[show d+1+k=(d+k)+1 by omega]
  unfold teq at h
  cases hu:P.underlying t with
  |none=>rw[hu]at h;simp at h
  |some dd=>
   rw[hu]at h
   cases dd with
   |bool=>
    cases x with
    |bool a=>cases y with
     |bool b=>
      simp at h
      simp only[VR]at hx hy;subst hx;subst hy;subst h
      simp[Op.equalIn,run_underlying hu]
     |_=>simp at h
    |_=>simp at h
   |int k0=>
    cases x with
    |int k1 a=>cases y with
     |int k2 b=>
      simp only at h
      cases hk:decide (k1=k2)with
      |false=>rw[hk]at h;simp at h
      |true=>
       rw[hk]at h
       have hk':=of_decide_eq_true hk
       simp only[VR]at hx hy;subst hx;subst hy;subst hk'
       simp only[Option.some.injEq]at h;subst h
       simp[Op.equalIn,run_underlying hu]
     |sint k2 j=>
      obtain⟨k,a,b,rfl,rfl,rfl⟩:=a0x he h hx hy
      simp[Op.equalIn,run_underlying hu]
     |_=>simp at h
    |sint k1 j=>
     obtain⟨k,a,b,rfl,rfl,rfl⟩:=a0x he h hx hy
     simp[Op.equalIn,run_underlying hu]
    |_=>simp at h
   |string=>
    cases x with
    |string a=>cases y with
     |string b=>
      simp only[Option.some.injEq]at h
      simp only[VR]at hx hy;subst hx;subst hy;subst h
      rw[a5e]
      exact run_equalIn_string w _ t _ _ hu
     |_=>simp at h
    |_=>simp at h
   |pointer e=>
    cases x with
    |ptr p=>cases y with
     |ptr q=>
      cases p<;>cases q<;>simp at h
      all_goals
       subst h
       simp only[VR]at hx hy
      ·subst hx;subst hy;simp[Op.equalIn,run_underlying hu]
      ·obtain⟨a,s,_,rfl⟩:=hy;subst hx;simp[Op.equalIn,run_underlying hu]
      ·obtain⟨a,s,_,rfl⟩:=hx;subst hy;simp[Op.equalIn,run_underlying hu]
     |_=>simp at h
    |_=>simp at h
   |interface ms=>
    cases x with
    |nilIface=>cases y with
     |nilIface=>simp at h;subst h;simp only[VR]at hx hy;subst hx;subst hy;simp[Op.equalIn,run_underlying hu]
     |iface ty vy=>simp at h;subst h;simp only[VR]at hx hy;obtain⟨v,_,rfl⟩:=hy;subst hx;simp[Op.equalIn,run_underlying hu]
     |_=>simp at h
    |iface tx vx=>cases y with
     |nilIface=>simp at h;subst h;simp only[VR]at hx hy;obtain⟨v,_,rfl⟩:=hx;subst hy;simp[Op.equalIn,run_underlying hu]
     |iface ty vy=>
      simp only at h
      simp only[VR]at hx hy
      obtain⟨vx',h1,rfl⟩:=hx
      obtain⟨vy',h2,rfl⟩:=hy
      cases ht:Nat.beq tx ty with
      |false=>
       rw[ht]at h
       simp only[Option.some.injEq]at h
       subst h
       have e:tx≠ty:=by intro e;subst e;simp at ht
       simp[Op.equalIn,run_underlying hu,e]
      |true=>
       rw[ht]at h
       have e:tx=ty:=Nat.eq_of_beq_eq_true ht
       subst e
       simp only at h
       cases hi:P.info? tx with
       |none=>rw[hi]at h;simp at h
       |some i=>
        rw[hi]at h
        simp only at h
        cases hc:i.comparable with
        |false=>rw[hc]at h;simp at h
        |true=>
         rw[hc]at h
         simp only at h
         have:=ih k _ _ _ _ h vx' vy' w h1 h2
         simp[Op.equalIn,run_underlying hu,typeInfo,hi,hc,this]
     |_=>simp at h
    |_=>simp at h
   |struct fs=>
    cases x with
    |agg xs=>cases y with
     |agg ys=>
      simp only at h
      cases hs:P.stoodInHeld t with
      |true=>rw[hs]at h;simp at h
      |false=>
       rw[hs]at h
       simp only at h
       simp only[VR]at hx hy
       obtain⟨xs',hxs,rfl⟩:=hx
       obtain⟨ys',hys,rfl⟩:=hy
       have hfo:P.fieldsOf t=fs:=by simp[Program.fieldsOf,hu]
       rw[run_equalIn_struct w _ t _ _ (by rw[hfo];exact hu) hs,hfo]
       exact b1U (ih k) hxs hys w _ _ h
     |_=>simp at h
    |_=>simp at h
   |array n e=>
    cases x with
    |agg xs=>cases y with
     |agg ys=>
      simp only at h
      cases hi:P.info? e with
      |none=>rw[hi]at h;simp at h
      |some i=>
       rw[hi]at h
       simp only at h
       simp only[VR]at hx hy
       obtain⟨xs',hxs,rfl⟩:=hx
       obtain⟨ys',hys,rfl⟩:=hy
       rw[run_equalIn_array w _ _ _ hu hi,List.range_eq_range']
       have hc:P.cellsOf e=i.size:=by simp[Program.cellsOf,hi]
       rw[hc]
       exact b1T (ih k) hxs hys w _ _ _ _ h
     |_=>simp at h
    |_=>simp at h
   |slice e=>
    cases x with
    |slice p l c=>cases y with
     |slice q l' c'=>
      cases p<;>cases q<;>simp at h
      all_goals
       subst h
       simp only[VR]at hx hy
      ·subst hx;subst hy;simp[Op.equalIn,run_underlying hu]
      ·obtain⟨a,s,_,rfl⟩:=hy;subst hx;simp[Op.equalIn,run_underlying hu]
      ·obtain⟨a,s,_,rfl⟩:=hx;subst hy;simp[Op.equalIn,run_underlying hu]
     |sliceE=>
      cases p<;>simp at h
      subst h
      simp only[VR]at hx hy
      obtain⟨a,c',rfl⟩:=hy;subst hx;simp[Op.equalIn,run_underlying hu]
     |_=>simp at h
    |sliceE=>cases y with
     |slice q l' c'=>
      cases q<;>simp at h
      subst h
      simp only[VR]at hx hy
      obtain⟨a,c,rfl⟩:=hx;subst hy;simp[Op.equalIn,run_underlying hu]
     |_=>simp at h
    |_=>simp at h
   |map ky e=>
    cases x with
    |map p=>cases y with
     |map q=>
      cases p<;>cases q<;>simp at h
      all_goals
       subst h
       simp only[VR]at hx hy
      ·subst hx;subst hy;simp[Op.equalIn,run_underlying hu]
      ·obtain⟨a,_,rfl⟩:=hy;subst hx;simp[Op.equalIn,run_underlying hu]
      ·obtain⟨a,_,rfl⟩:=hx;subst hy;simp[Op.equalIn,run_underlying hu]
     |_=>simp at h
    |_=>simp at h
   |func ps rs v=>
    cases x with
    |nilFunc=>cases y with
     |nilFunc=>simp at h;subst h;simp only[VR]at hx hy;subst hx;subst hy;simp[Op.equalIn,run_underlying hu]
     |func fn f c=>simp at h;subst h;simp only[VR]at hx hy;obtain⟨_,_,_,_,_,rfl⟩:=hy;subst hx;simp[Op.equalIn,run_underlying hu]
     |_=>simp at h
    |func fn f c=>cases y with
     |nilFunc=>simp at h;subst h;simp only[VR]at hx hy;obtain⟨_,_,_,_,_,rfl⟩:=hx;subst hy;simp[Op.equalIn,run_underlying hu]
     |_=>simp at h
    |_=>simp at h
   |_=>simp at h
def isC:Operand→Bool
 |.const _=>true
 |_=>false
def b0S:VV→Bool
 |.any|.one|.sym _=>true
 |_=>false
def eqG(P:Program)(t:TypeId)(cx cy:Bool)(x y:VV):Bool:=
 match b0S x,b0S y with
 |false,false=>match x,y with
  |.nilIface,.nilIface=>cx||cy
  |.agg _,.agg _=> !(P.eqGuardType P.depth t)
  |_,_=>true
 |_,_=>false
def b3O(op:BinOp)(k:IntKind)(a:Int)(k':IntKind)(b:Int):RO:=
 match op with
 |.shl=>.chk (decide (0≤b)) (.val (.int k (k.wrap (a*2^(min b.toNat k.bits)))))
 |.shr=>.chk (decide (0≤b)) (.val (.int k (a.fdiv (2^(min b.toNat k.bits)))))
 |op=>match kEq k k' with
  |false=>.bad
  |true=>match op with
   |.add=>.val (.int k (k.wrap (a+b)))
   |.sub=>.val (.int k (k.wrap (a-b)))
   |.mul=>.val (.int k (k.wrap (a*b)))
   |.quo=>.chk (!(decide (b=0))) (.val (.int k (k.wrap (a.tdiv b))))
   |.rem=>.chk (!(decide (b=0))) (.val (.int k (a.tmod b)))
   |.and=>.val (.int k (k.wrap (BitVec.ofInt k.bits a&&&BitVec.ofInt k.bits b).toNat))
   |.or=>.val (.int k (k.wrap (BitVec.ofInt k.bits a|||BitVec.ofInt k.bits b).toNat))
   |.xor=>.val (.int k (k.wrap (BitVec.ofInt k.bits a^^^BitVec.ofInt k.bits b).toNat))
   |.andNot=>.val (.int k (k.wrap (BitVec.ofInt k.bits a&&& ~~~(BitVec.ofInt k.bits b)).toNat))
   |.eql=>.val (.bool (a==b))
   |.neq=>.val (.bool (a !=b))
   |.lss=>.val (.bool (decide (a<b)))
   |.leq=>.val (.bool (decide (a≤b)))
   |.gtr=>.val (.bool (decide (a>b)))
   |.geq=>.val (.bool (decide (a≥b)))
   |_=>.bad
def b3N(op:BinOp)(a b:ByteArray):RO:=
 match op with
 |.add=>.chk (decide (((a.size+b.size:Nat):Int)≤9223372036854775807)) (.val (.string (a++b)))
 |.eql=>.val (.bool (a6w a b))
 |.neq=>.val (.bool (!(a6w a b)))
 |.lss=>.val (.bool (Op.bytesLess a.toList b.toList))
 |.leq=>.val (.bool (Op.bytesLess a.toList b.toList||a6w a b))
 |.gtr=>.val (.bool (!(Op.bytesLess a.toList b.toList||a6w a b)))
 |.geq=>.val (.bool (!(Op.bytesLess a.toList b.toList)))
 |_=>.bad
def b6Z(P:Program)(H:VH)(op:BinOp)(t:TypeId)(cx cy:Bool)(x y:VV):RO:=
 match op with
 |.eql=>match eqG P t cx cy x y,teq P H.base 50 t x y with
  |true,some r=>.val (.bool r)
  |_,_=>.bad
 |.neq=>match eqG P t cx cy x y,teq P H.base 50 t x y with
  |true,some r=>.val (.bool (!r))
  |_,_=>.bad
 |_=>.bad
def b3E(E:Env)(op:BinOp)(x y:VV):RO:=
 match(match op with
  |.lss=>a5L E x y
  |.gtr=>a5L E y x
  |.leq=>match a5L E y x with|some b=>some (!b)|none=>none
  |.geq=>match a5L E x y with|some b=>some (!b)|none=>none
  |.eql=>a5N E x y
  |.neq=>match a5N E x y with|some b=>some (!b)|none=>none
  |_=>none)with
 |some b=>.val (.bool b)
 |none=>RO.of (a3K op x y E.tab)
def b2A(P:Program)(H:VH)(op:BinOp)(t:TypeId)(cx cy:Bool)(x y:VV):RO:=
 match x with
 |.int k a=>match y with
  |.int k' b=>b3O op k a k' b
  |.sint _ _=>b3E H.base op x y
  |_=>.bad
 |.sint _ _=>b3E H.base op x y
 |.sym _=>b3E H.base op x y
 |.string a=>match y with
  |.string b=>b3N op a b
  |_=>.bad
 |x=>b6Z P H op t cx cy x y
def a2K(P:Program)(op:BinOp)(t:TypeId)(x y:Operand)(a b:Value)(w:World):Result Value:=(do eqGuard op t x y a b;binOp op t a b:Sem Value).run P w
theorem a0Q{P:Program}{w:World}(op:BinOp)(t:TypeId)(x y:Operand)(a b:Value)(h1: ∀cs,a≠ .agg cs)(h2:a≠ .nilIface):(eqGuard op t x y a b).run P w= .ok () w:=by
 unfold eqGuard
 cases op<;>simp<;>(split<;>simp_all)
theorem a4L{P:Program}{w0:World}{φ:Phi}{H:VH}{w:World}(h:HSim w0 φ H w)(op:BinOp)(t:TypeId)(ox oy:Operand){x y:VV}{x' y':Value}(hx:VR φ x x')(hy:VR φ y y'):
  ROR φ w (a2K P op t ox oy x' y' w) (b3E H.base op x y):=by
 have int: ∀(k:IntKind) (a b:Int) (v:Value),(binOp op t (.int k a) (.int k b)).run P w= .ok v w→a2K P op t ox oy (.int k a) (.int k b) w= .ok v w:=by
  intro k a b v hv
  have hg:=a0Q (P:=P) (w:=w) op t ox oy (.int k a) (.int k b) (by simp) (by simp)
  simp[a2K,hg,hv]
 unfold b3E
 split
 ·rename_i b hb
  simp only[ROR]
  refine⟨.bool b, ?_,by simp[VR]⟩
  split at hb
  ·obtain⟨k,u,v,rfl,rfl,rfl⟩:=a0w h.env hb hx hy
   exact int k u v _ (by simp[binOp,Op.intCmp])
  ·obtain⟨k,u,v,rfl,rfl,rfl⟩:=a0w h.env hb hy hx
   exact int k v u _ (by simp[binOp,Op.intCmp])
  ·split at hb
   ·rename_i c hc
    obtain⟨k,u,v,rfl,rfl,rfl⟩:=a0w h.env hc hy hx
    simp only[Option.some.injEq]at hb;subst hb
    refine int k v u _ ?_
    simp only[binOp,Op.intCmp]
    have:(decide (v≤u))= !decide (u<v):=by rw[←decide_not];congr 1;rw[Int.not_lt]
    simp[this]
   ·cases hb
  ·split at hb
   ·rename_i c hc
    obtain⟨k,u,v,rfl,rfl,rfl⟩:=a0w h.env hc hx hy
    simp only[Option.some.injEq]at hb;subst hb
    refine int k u v _ ?_
    simp only[binOp,Op.intCmp]
    have:(decide (u≥v))= !decide (u<v):=by rw[←decide_not];congr 1;rw[Int.not_lt]
    simp[this]
   ·cases hb
  ·obtain⟨k,u,v,rfl,rfl,rfl⟩:=a0x h.env hb hx hy
   exact int k u v _ (by simp[binOp,Op.intCmp])
  ·split at hb
   ·rename_i c hc
    obtain⟨k,u,v,rfl,rfl,rfl⟩:=a0x h.env hc hx hy
    simp only[Option.some.injEq]at hb;subst hb
    refine int k u v _ ?_
    simp[binOp,Op.intCmp,bne]
   ·cases hb
  ·cases hb
 ·refine b3h fun v hv=> ?_
  obtain⟨a,b,u,h1,h2,h3,h4,h5,h6⟩:=h.env.tab _ (a2Q hv)
  have e1:=a5u h1 hx
  have e2:=a5u h2 hy
  subst e1 e2
  have hg:=a0Q (P:=P) (w:=w) op t ox oy x' y' h4 h5
  exact⟨u,by simp[a2K,hg,h6],b3f h3⟩
theorem a9b{P:Program}{φ:Phi}{w:World}(op:BinOp)(t:TypeId)(x y:Operand)(k k':IntKind)(a b:Int):
  ROR φ w (a2K P op t x y (.int k a) (.int k' b) w) (b3O op k a k' b):=by
 have hg:=a0Q (P:=P) (w:=w) op t x y (.int k a) (.int k' b) (by simp) (by simp)
 have hr:a2K P op t x y (.int k a) (.int k' b) w=(binOp op t (.int k a) (.int k' b)).run P w:=by simp[a2K,hg]
 rw[hr]
 unfold b3O
 cases op
 case shl=>
  simp only[ROR]
  intro h
  have h':=of_decide_eq_true h
  refine⟨.int k (k.wrap (a*2^(min b.toNat k.bits))), ?_,by simp[VR]⟩
  rw[binOp_shl]
  simp[Op.shift,show¬b<0 by omega]
 case shr=>
  simp only[ROR]
  intro h
  have h':=of_decide_eq_true h
  refine⟨.int k (a.fdiv (2^(min b.toNat k.bits))), ?_,by simp[VR]⟩
  rw[binOp_shr]
  simp[Op.shift,show¬b<0 by omega]
 all_goals
  simp only
  cases hk:kEq k k' with
  |false=>trivial
  |true=>
   have e:k=k':=of_decide_eq_true hk
   subst e
   simp only
   first
    |trivial
    |(simp only[ROR];refine⟨_,rfl, ?_⟩;simp[VR];done)
    |(simp only[ROR];intro h;have h':b≠0:=by simpa using h
      first
       |(refine⟨.int k (k.wrap (a.tdiv b)), ?_,by simp[VR]⟩;simp[binOp_quo,Op.intDiv,h'];done)
       |(refine⟨.int k (a.tmod b), ?_,by simp[VR]⟩;simp[binOp_rem,Op.intDiv,h'];done))
    |(simp only[ROR];refine⟨_,by simp[binOp,Op.intArith,Op.intBits,Op.intCmp];rfl, ?_⟩;simp[VR])
theorem a9a{P:Program}{φ:Phi}{w:World}(op:BinOp)(t:TypeId)(x y:Operand)(a b:ByteArray):
  ROR φ w (a2K P op t x y (.string a) (.string b) w) (b3N op a b):=by
 have hg:=a0Q (P:=P) (w:=w) op t x y (.string a) (.string b) (by simp) (by simp)
 have hr:a2K P op t x y (.string a) (.string b) w=(Op.stringOp op a b).run P w:=by cases op<;>simp[a2K,hg,binOp]
 rw[hr]
 unfold b3N
 cases op<;>first
  |trivial
  |(simp only[ROR];refine⟨_,rfl, ?_⟩;simp[VR,a5e];done)
  |(simp only[ROR];intro h;have h':=of_decide_eq_true h
    refine⟨.string (a++b), ?_,by simp[VR]⟩
    simp only[Op.stringOp,IntKind.max_i64]
    rw[if_neg (by omega)]
    rfl)
theorem b3R{P:Program}{φ:Phi}{w:World}{op:BinOp}{t:TypeId}{x y:VV}{x' y':Value}(hx:VR φ x x')(hy:VR φ y y')(ox oy:Operand)(h:eqG P t (isC ox) (isC oy) x y=true)(hni: ∀k n,x≠ .int k n)(hns: ∀s,x≠ .string s):
  (eqGuard op t ox oy x' y').run P w= .ok () w:=by
 cases x with
 |agg cs=>
  simp only[VR]at hx
  obtain⟨cs',_,rfl⟩:=hx
  cases y with
  |agg ds=>
   simp only[VR]at hy
   obtain⟨ds',_,rfl⟩:=hy
   simp only[eqG,b0S,Bool.not_eq_true']at h
   exact run_eqGuard_agg w op t ox oy _ _ h
  |ptr p=>cases p<;>simp only[VR]at hy<;>(first|subst hy|obtain⟨_,_,_,rfl⟩:=hy)<;>cases op<;>simp[eqGuard]
  |slice p l c=>cases p<;>simp only[VR]at hy<;>(first|subst hy|obtain⟨_,_,_,rfl⟩:=hy)<;>cases op<;>simp[eqGuard]
  |map p=>cases p<;>simp only[VR]at hy<;>(first|subst hy|obtain⟨_,_,rfl⟩:=hy)<;>cases op<;>simp[eqGuard]
  |sliceE=>simp only[VR]at hy;obtain⟨_,_,rfl⟩:=hy;cases op<;>simp[eqGuard]
  |any=>simp[eqG,b0S]at h
  |one=>simp[eqG,b0S]at h
  |sym i=>simp[eqG,b0S]at h
  |func fn f c=>simp only[VR]at hy;obtain⟨_,_,_,_,_,rfl⟩:=hy;cases op<;>simp[eqGuard]
  |yield i=>simp only[VR]at hy;obtain⟨_,_,rfl⟩:=hy;cases op<;>simp[eqGuard]
  |iface ty v=>simp only[VR]at hy;obtain⟨_,_,rfl⟩:=hy;cases op<;>simp[eqGuard]
  |tuple ds=>simp only[VR]at hy;obtain⟨_,_,rfl⟩:=hy;cases op<;>simp[eqGuard]
  |_=>simp only[VR]at hy;subst hy;cases op<;>simp[eqGuard]
 |nilIface=>
  simp only[VR]at hx
  subst hx
  cases y with
  |nilIface=>
   simp only[VR]at hy
   subst hy
   simp only[eqG,b0S,Bool.or_eq_true]at h
   cases op<;>simp[eqGuard]
   all_goals
    rcases h with h|h
    ·cases ox<;>simp[isC]at h;simp
    ·cases oy<;>simp[isC]at h;cases ox<;>simp
  |ptr p=>cases p<;>simp only[VR]at hy<;>(first|subst hy|obtain⟨_,_,_,rfl⟩:=hy)<;>cases op<;>simp[eqGuard]
  |slice p l c=>cases p<;>simp only[VR]at hy<;>(first|subst hy|obtain⟨_,_,_,rfl⟩:=hy)<;>cases op<;>simp[eqGuard]
  |map p=>cases p<;>simp only[VR]at hy<;>(first|subst hy|obtain⟨_,_,rfl⟩:=hy)<;>cases op<;>simp[eqGuard]
  |sliceE=>simp only[VR]at hy;obtain⟨_,_,rfl⟩:=hy;cases op<;>simp[eqGuard]
  |any=>simp[eqG,b0S]at h
  |one=>simp[eqG,b0S]at h
  |sym i=>simp[eqG,b0S]at h
  |func fn f c=>simp only[VR]at hy;obtain⟨_,_,_,_,_,rfl⟩:=hy;cases op<;>simp[eqGuard]
  |yield i=>simp only[VR]at hy;obtain⟨_,_,rfl⟩:=hy;cases op<;>simp[eqGuard]
  |iface ty v=>simp only[VR]at hy;obtain⟨_,_,rfl⟩:=hy;cases op<;>simp[eqGuard]
  |tuple ds=>simp only[VR]at hy;obtain⟨_,_,rfl⟩:=hy;cases op<;>simp[eqGuard]
  |agg ds=>simp only[VR]at hy;obtain⟨_,_,rfl⟩:=hy;cases op<;>simp[eqGuard]
  |_=>simp only[VR]at hy;subst hy;cases op<;>simp[eqGuard]
 |int k n=>exact absurd rfl (hni k n)
 |string s=>exact absurd rfl (hns s)
 |ptr p=>cases p<;>simp only[VR]at hx<;>(first|subst hx|obtain⟨_,_,_,rfl⟩:=hx)<;>exact a0Q _ _ _ _ _ _ (by simp) (by simp)
 |slice p l c=>cases p<;>simp only[VR]at hx<;>(first|subst hx|obtain⟨_,_,_,rfl⟩:=hx)<;>exact a0Q _ _ _ _ _ _ (by simp) (by simp)
 |map p=>cases p<;>simp only[VR]at hx<;>(first|subst hx|obtain⟨_,_,rfl⟩:=hx)<;>exact a0Q _ _ _ _ _ _ (by simp) (by simp)
 |sliceE=>simp only[VR]at hx;obtain⟨_,_,rfl⟩:=hx;exact a0Q _ _ _ _ _ _ (by simp) (by simp)
 |any=>cases y<;>simp[eqG,b0S]at h
 |one=>cases y<;>simp[eqG,b0S]at h
 |sym i=>cases y<;>simp[eqG,b0S]at h
 |sint k i=>simp only[VR]at hx;subst hx;exact a0Q _ _ _ _ _ _ (by simp) (by simp)
 |func fn f c=>simp only[VR]at hx;obtain⟨_,_,_,_,_,rfl⟩:=hx;exact a0Q _ _ _ _ _ _ (by simp) (by simp)
 |yield i=>simp only[VR]at hx;obtain⟨_,_,rfl⟩:=hx;exact a0Q _ _ _ _ _ _ (by simp) (by simp)
 |iface ty v=>simp only[VR]at hx;obtain⟨_,_,rfl⟩:=hx;exact a0Q _ _ _ _ _ _ (by simp) (by simp)
 |tuple ds=>simp only[VR]at hx;obtain⟨_,_,rfl⟩:=hx;exact a0Q _ _ _ _ _ _ (by simp) (by simp)
 |bool b=>simp only[VR]at hx;subst hx;exact a0Q _ _ _ _ _ _ (by simp) (by simp)
 |nilFunc=>simp only[VR]at hx;subst hx;exact a0Q _ _ _ _ _ _ (by simp) (by simp)
end
end Go.Ev
namespace Go.Ev
noncomputable section
theorem b0h{P:Program}{w0:World}{φ:Phi}{H:VH}{w:World}(hs:HSim w0 φ H w)(op:BinOp)(t:TypeId)(ox oy:Operand){x y:VV}{x' y':Value}(hx:VR φ x x')(hy:VR φ y y'):
  ROR φ w (a2K P op t ox oy x' y' w) (b2A P H op t (isC ox) (isC oy) x y):=by
 have key: ∀(_: ∀k n,x≠ .int k n) (_: ∀s,x≠ .string s) (hb: ∀r:Bool,(Op.equal t x' y').run P w= .ok r w→(binOp .eql t x' y').run P w= .ok (.bool r) w∧(binOp .neq t x' y').run P w= .ok (.bool (!r)) w),
   ROR φ w (a2K P op t ox oy x' y' w) (b6Z P H op t (isC ox) (isC oy) x y):=by
  intro h1 h2 hb
  unfold b6Z
  cases op<;>first
   |trivial
   |(simp only
     cases hg:eqG P t (isC ox) (isC oy) x y with
     |false=>trivial
     |true=>
      cases hq:teq P H.base 50 t x y with
      |none=>trivial
      |some r=>
       simp only[ROR]
       have hgr:=fun o:BinOp=>b3R (P:=P) (w:=w) (op:=o) (t:=t) hx hy ox oy hg h1 h2
       have hrun:=b2O (P:=P) (φ:=φ) hs.env 50 9950 t x y r hq x' y' w hx hy
       obtain⟨hb1,hb2⟩:=hb r hrun
       first
        |(refine⟨.bool r, ?_,by simp[VR]⟩;simp only[a2K,Sem.run_bind,hgr .eql,Result.andThen_ok,hb1];done)
        |(refine⟨.bool (!r), ?_,by simp[VR]⟩;simp only[a2K,Sem.run_bind,hgr .neq,Result.andThen_ok,hb2];done))
 unfold b2A
 cases x with
 |int k a=>
  cases y with
  |int k' b=>simp only[VR]at hx hy;subst hx;subst hy;exact a9b op t ox oy k k' a b
  |sint k' j=>exact a4L hs op t ox oy hx hy
  |_=>trivial
 |sint k j=>exact a4L hs op t ox oy hx hy
 |sym j=>exact a4L hs op t ox oy hx hy
 |any=>
  unfold b6Z
  cases op<;>first|trivial|(cases y<;>simp only[eqG,b0S]<;>trivial)
 |one=>
  unfold b6Z
  cases op<;>first|trivial|(cases y<;>simp only[eqG,b0S]<;>trivial)
 |string a=>
  cases y with
  |string b=>simp only[VR]at hx hy;subst hx;subst hy;exact a9a op t ox oy a b
  |_=>trivial
 |ptr p=>
  refine key (by simp) (by simp) ?_
  cases p<;>simp only[VR]at hx<;>(first|subst hx|obtain⟨_,_,_,rfl⟩:=hx)<;>intro r hr<;>simp[binOp,hr]
 |slice p l c=>
  refine key (by simp) (by simp) ?_
  cases p<;>simp only[VR]at hx<;>(first|subst hx|obtain⟨_,_,_,rfl⟩:=hx)<;>intro r hr<;>simp[binOp,hr]
 |map p=>
  refine key (by simp) (by simp) ?_
  cases p<;>simp only[VR]at hx<;>(first|subst hx|obtain⟨_,_,rfl⟩:=hx)<;>intro r hr<;>simp[binOp,hr]
 |sliceE=>simp only[VR]at hx;obtain⟨_,_,rfl⟩:=hx;refine key (by simp) (by simp) ?_;intro r hr;simp[binOp,hr]
 |func fn f c=>simp only[VR]at hx;obtain⟨_,_,_,_,_,rfl⟩:=hx;refine key (by simp) (by simp) ?_;intro r hr;simp[binOp,hr]
 |yield i=>simp only[VR]at hx;obtain⟨_,_,rfl⟩:=hx;refine key (by simp) (by simp) ?_;intro r hr;simp[binOp,hr]
 |iface ty v=>simp only[VR]at hx;obtain⟨_,_,rfl⟩:=hx;refine key (by simp) (by simp) ?_;intro r hr;simp[binOp,hr]
 |tuple ds=>simp only[VR]at hx;obtain⟨_,_,rfl⟩:=hx;refine key (by simp) (by simp) ?_;intro r hr;simp[binOp,hr]
 |agg ds=>simp only[VR]at hx;obtain⟨_,_,rfl⟩:=hx;refine key (by simp) (by simp) ?_;intro r hr;simp[binOp,hr]
 |bool b=>simp only[VR]at hx;subst hx;refine key (by simp) (by simp) ?_;intro r hr;simp[binOp,hr]
 |nilFunc=>simp only[VR]at hx;subst hx;refine key (by simp) (by simp) ?_;intro r hr;simp[binOp,hr]
 |nilIface=>simp only[VR]at hx;subst hx;refine key (by simp) (by simp) ?_;intro r hr;simp[binOp,hr]
def b7u(op:UnOp)(x:VV):RO:=
 match op,x with
 |.not,.bool b=>.val (.bool (!b))
 |.neg,.int k n=>.val (.int k (k.wrap (0-n)))
 |.xor,.int k n=>.val (.int k (k.wrap (BitVec.ofInt k.bits (if k.signed then -1 else k.max)^^^BitVec.ofInt k.bits n).toNat))
 |_,_=>.bad
theorem b1u{P:Program}{φ:Phi}{w:World}(op:UnOp){x:VV}{x':Value}(hx:VR φ x x'):ROR φ w ((Op.unary op x').run P w) (b7u op x):=by
 unfold b7u
 cases op<;>cases x<;>first
  |trivial
  |(simp only[VR]at hx;subst hx;simp only[ROR];refine⟨_,rfl, ?_⟩;simp[VR])
def bytesOf:List VV→Option (List Int)
 | []=>some []
 |.int .u8 n::l=>match bytesOf l with
  |some r=>some (n::r)
  |none=>none
 |_::_=>none
def a3j:List Int→List UInt8
 | []=>[]
 |n::l=>UInt8.ofNat n.toNat::a3j l
theorem a3w: ∀(ns:List Int) (s:ByteArray),ns.foldl (fun r n=>r.push (UInt8.ofNat n.toNat)) s=⟨⟨s.data.toList++a3j ns⟩⟩
 | [],s=>by simp[a3j]
 |n::ns,s=>by
  simp only[List.foldl_cons,a3w ns,a3j]
  obtain⟨⟨l⟩⟩:=s
  simp[ByteArray.push]
theorem a4l{φ:Phi}: ∀(l:List VV) (vs:List Value) (ns:List Int),VRs φ l vs→bytesOf l=some ns→vs=ns.map (Value.int .u8)
 | [],vs,ns,h,hb=>by
  simp only[VRs]at h;subst h
  simp only[bytesOf,Option.some.injEq]at hb;subst hb
  rfl
 |x::l,vs,ns,h,hb=>by
  simp only[VRs]at h
  obtain⟨y,ys,rfl,h1,h2⟩:=h
  cases x with
  |int k n=>
   cases k<;>simp only[bytesOf]at hb<;>try (cases hb;done)
   cases hr:bytesOf l with
   |none=>rw[hr]at hb;cases hb
   |some r=>
    rw[hr]at hb
    simp only[Option.some.injEq]at hb
    subst hb
    simp only[VR]at h1
    subst h1
    rw[a4l l ys r h2 hr]
    rfl
  |_=>simp[bytesOf]at hb
def b0d(P:Program)(H:VH)(e:TypeId)(x:VV):RO:=
 match P.underlying e,x with
 |some (.int .u8),.slice none _ _=>.val (.string .empty)
 |some (.int .u8),.slice (some a) n _=>match a5a H a n with
  |some l=>match bytesOf l with
   |some b=>.val (.string ⟨⟨a3j b⟩⟩)
   |none=>.bad
  |none=>.bad
 |_,_=>.bad
def b0i(P:Program)(H:VH)(s:TypeDesc)(x:VV):RO:=match s with
 |.slice e=>b0d P H e x
 |_=>.bad
def b3L(P:Program)(H:VH)(src dst:TypeId)(x:VV):RO:=
 match P.underlying src,P.underlying dst with
 |some s,some d=>match d with
  |.int k=>match x with
   |.int _ n=>.val (.int k (k.wrap n))
   |_=>.bad
  |.string=>match x with
   |.string s=>.val (.string s)
   |x=>b0i P H s x
  |_=>.bad
 |_,_=>.bad
theorem a8O{P:Program}{w0:World}{φ:Phi}{H:VH}{w:World}(h:HSim w0 φ H w){src dst e:TypeId}(hs:P.underlying src=some (.slice e))(hd:P.underlying dst=some .string){x:VV}{x':Value}(hx:VR φ x x'):
  ROR φ w ((convert src dst x').run P w) (b0d P H e x):=by
 unfold b0d
 cases hu:P.underlying e with
 |none=>trivial
 |some d=>cases d with
  |int k=>cases k with
   |u8=>cases x with
    |slice p n c=>cases p with
     |none=>
      simp only[VR]at hx
      subst hx
      simp only[ROR]
      refine⟨.string .empty, ?_,by simp[VR]⟩
      rw[run_convert_bytes_string w src dst e _ n c hs hu hd]
      rfl
     |some a=>
      simp only
      cases hl:a5a H a n with
      |none=>trivial
      |some l=>
       simp only
       cases hb:bytesOf l with
       |none=>trivial
       |some b=>
        simp only[VR]at hx
        obtain⟨a',s,ha,rfl⟩:=hx
        obtain⟨vs,h1,h2,_,h4⟩:=a2N h ha hl
        have hvs:=a4l _ _ _ h1 hb
        simp only[ROR]
        refine⟨.string ⟨⟨a3j b⟩⟩, ?_,by simp[VR]⟩
        rw[run_convert_bytes_string w src dst e _ n _ hs hu hd]
        have hrun:=run_loadCells_list (P:=P) w a' vs h4
        rw[h2,hvs]at hrun
        rw[run_bytesToString w a' n _ b hrun,a3w]
        rfl
    |_=>trivial
   |_=>cases x<;>trivial
  |_=>cases x<;>trivial
theorem a9Z{P:Program}{w0:World}{φ:Phi}{H:VH}{w:World}(h:HSim w0 φ H w){src dst:TypeId}{x:VV}{x':Value}(hx:VR φ x x'):
  ROR φ w ((convert src dst x').run P w) (b3L P H src dst x):=by
 unfold b3L
 cases hs:P.underlying src with
 |none=>trivial
 |some sd=>cases hd:P.underlying dst with
  |none=>trivial
  |some d=>cases d with
   |int k=>cases x with
    |int k' n=>
     simp only[VR]at hx
     subst hx
     simp only[ROR]
     refine⟨.int k (k.wrap n), ?_,by simp[VR]⟩
     simp[convert,run_underlying hs,run_underlying hd,Conv.intToInt]
    |_=>trivial
   |string=>
    have slc:ROR φ w ((convert src dst x').run P w) (b0i P H sd x):=by
     unfold b0i
     cases sd with
     |slice e=>exact a8O h hs hd hx
     |_=>trivial
    cases x with
    |string s=>
     simp only[VR]at hx
     subst hx
     simp only[ROR]
     refine⟨.string s, ?_,by simp[VR]⟩
     simp[convert,run_underlying hs,run_underlying hd]
    |_=>exact slc
   |_=>trivial
def mapOf(H:VH):VB→Option (List (VV×VV×Nat)×Nat)
 |.loc i=>match H.locs.get i with
  |some (.map es c)=>some (es,c)
  |_=>none
 |_=>none
def b0t(H:VH)(str:Bool)(x:VV):RO:=match a3J str x H.base.tab with
 |some r=>.val r
 |none=>.bad
def b6C(P:Program)(H:VH)(t:TypeId)(x:VV):RO:=
 match P.underlying t with
 |some .string=>match x with|.string s=>.val (.int .i64 s.size)|.sym _=>b0t H true x|_=>.bad
 |some (.array n _)=>.val (.int .i64 n)
 |some (.pointer p)=>match P.underlying p with|some (.array n _)=>.val (.int .i64 n)|_=>.bad
 |some (.slice _)=>match x with|.slice _ n _=>.val (.int .i64 n)|.sliceE=>.val (.int .i64 0)|.sym _=>b0t H false x|_=>.bad
 |some (.map _ _)=>match x with
  |.map none=>.val (.int .i64 0)
  |.map (some b)=>match mapOf H b with
   |some (es,_)=>.val (.int .i64 es.length)
   |none=>.bad
  |_=>.bad
 |_=>.bad
theorem a7c{φ:Phi}: ∀(xs:List (VV×VV×Nat)) (es:List MapEntry),ERs φ xs es→xs.length=es.length
 | [],es,h=>by simp only[ERs]at h;subst h;rfl
 |x::xs,es,h=>by
  simp only[ERs]at h
  obtain⟨y,ys,rfl,_,_,_,h5⟩:=h
  simp[a7c xs ys h5]
theorem a6S{w0:World}{φ:Phi}{H:VH}{w:World}(h:HSim w0 φ H w){b:VB}{r:Nat}(hb:BR φ b r){es:List (VV×VV×Nat)}{c:Nat}(hm:mapOf H b=some (es,c)):
  ∃es',w.heap[r]? =some (.map ⟨es'⟩ c)∧ERs φ es es':=by
 cases b with
 |base r=>simp[mapOf]at hm
 |sym r=>simp[mapOf]at hm
 |loc i=>
  simp only[mapOf]at hm
  cases hg:H.locs.get i with
  |none=>rw[hg]at hm;simp at hm
  |some o=>
   rw[hg]at hm
   cases o with
   |map es0 c0=>
    simp only[Option.some.injEq,Prod.mk.injEq]at hm
    obtain⟨rfl,rfl⟩:=hm
    obtain⟨inf,o',h1,h2,⟨es',rfl,h3⟩,_⟩:=h.live i _ hg
    simp only[BR]at hb
    obtain⟨inf',h1',rfl⟩:=hb
    rw[h1]at h1';cases h1'
    exact⟨es',h2,h3⟩
   |_=>simp at hm
theorem run_getObj_map{P:Program}{w:World}{r:Nat}{es:Array MapEntry}{c:Nat}(h:w.heap[r]? =some (.map es c)):(getObj r).run P w= .ok (.map es c) w:=by
 simp[getObj,Sem.run,h]
theorem a5M{P:Program}{w0:World}{φ:Phi}{H:VH}{w:World}(h:HSim w0 φ H w){t:TypeId}{ts:List TypeId}{ty:TypeId}{str:Bool}(hu:match str with|true=>P.underlying t=some .string|false=> ∃e,P.underlying t=some (.slice e)){x:VV}{x':Value}(hx:VR φ x x'):
  ROR φ w ((Builtin.len_ ⟨t::ts⟩ ty #[x']).run P w) (b0t H str x):=by
 unfold b0t
 cases hf:a3J str x H.base.tab with
 |none=>trivial
 |some r=>
  obtain⟨v,n,h1,h2,h3⟩:=h.env.tab _ (a2v hf)
  have e:=a5u h1 hx
  subst e
  simp only[ROR]
  refine⟨.int .i64 n, ?_,b3f h3⟩
  cases str with
  |true=>obtain⟨s,rfl,rfl⟩:=h2;simp[Builtin.len_,run_underlying hu,goInt]
  |false=>obtain⟨a,c,rfl⟩:=h2;obtain⟨e,hu⟩:=hu;simp[Builtin.len_,run_underlying hu,goInt]
theorem b0a{P:Program}{w0:World}{φ:Phi}{H:VH}{w:World}(h:HSim w0 φ H w){t:TypeId}{ts:List TypeId}{ty:TypeId}{x:VV}{x':Value}(hx:VR φ x x'):
  ROR φ w ((Builtin.len_ ⟨t::ts⟩ ty #[x']).run P w) (b6C P H t x):=by
 unfold b6C
 cases hu:P.underlying t with
 |none=>trivial
 |some d=>cases d with
  |string=>cases x with
   |string s=>simp only[VR]at hx;subst hx;simp only[ROR];exact⟨.int .i64 s.size,by simp[Builtin.len_,run_underlying hu,goInt],by simp[VR]⟩
   |sym j=>exact a5M h (str:=true) hu hx
   |_=>trivial
  |array n e=>simp only[ROR];exact⟨.int .i64 n,by simp[Builtin.len_,run_underlying hu,goInt],by simp[VR]⟩
  |pointer p=>
   simp only
   cases hp:P.underlying p with
   |none=>trivial
   |some d=>cases d with
    |array n e=>simp only[ROR];exact⟨.int .i64 n,by simp[Builtin.len_,run_underlying hu,run_underlying hp,goInt],by simp[VR]⟩
    |_=>trivial
  |slice e=>cases x with
   |slice p n c=>
    simp only[ROR]
    refine⟨.int .i64 n, ?_,by simp[VR]⟩
    cases p<;>simp only[VR]at hx<;>(first|subst hx|obtain⟨_,_,_,rfl⟩:=hx)<;>simp[Builtin.len_,run_underlying hu,goInt]
   |sliceE=>
    simp only[VR]at hx
    obtain⟨_,_,rfl⟩:=hx
    simp only[ROR]
    exact⟨.int .i64 0,by simp[Builtin.len_,run_underlying hu,goInt],by simp[VR]⟩
   |sym j=>exact a5M h (str:=false) ⟨e,hu⟩ hx
   |_=>trivial
  |map k e=>cases x with
   |map b=>cases b with
    |none=>simp only[VR]at hx;subst hx;simp only[ROR];exact⟨.int .i64 0,by simp[Builtin.len_,run_underlying hu,goInt],by simp[VR]⟩
    |some b=>
     simp only
     cases hm:mapOf H b with
     |none=>trivial
     |some ec=>
      obtain⟨es,c⟩:=ec
      simp only[VR]at hx
      obtain⟨r,hb,rfl⟩:=hx
      obtain⟨es',hw,he⟩:=a6S h hb hm
      simp only[ROR]
      refine⟨.int .i64 es.length, ?_,by simp[VR]⟩
      simp[Builtin.len_,run_underlying hu,goInt,run_getObj_map hw,a7c _ _ he]
   |_=>trivial
  |_=>trivial
def b6D(P:Program)(H:VH)(t:TypeId)(x:VV):RO:=
 match P.underlying t,x with
 |some (.slice _),.slice none _ c=>.val (.int .i64 c)
 |some (.slice _),.slice (some a) _ c=>match a2u H a.b with
  |true=>.val (.int .i64 c)
  |false=>.bad
 |_,_=>.bad
theorem b0f{P:Program}{w0:World}{φ:Phi}{H:VH}{w:World}(h:HSim w0 φ H w){t:TypeId}{ts:List TypeId}{ty:TypeId}{x:VV}{x':Value}(hx:VR φ x x'):
  ROR φ w ((Builtin.cap_ ⟨t::ts⟩ ty #[x']).run P w) (b6D P H t x):=by
 unfold b6D
 cases hu:P.underlying t with
 |none=>trivial
 |some d=>cases d with
  |slice e=>cases x with
   |slice a l c=>cases a with
    |none=>
     simp only[VR]at hx
     subst hx
     simp only[ROR]
     exact⟨.int .i64 c,by simp[Builtin.cap_,run_underlying hu,goInt],by simp[VR]⟩
    |some a=>
     simp only
     cases hf:a2u H a.b with
     |false=>trivial
     |true=>
      simp only[VR]at hx
      obtain⟨a',s,ha,rfl⟩:=hx
      have hs0:=a2E h ha hf
      subst hs0
      simp only[ROR]
      exact⟨.int .i64 c,by simp[Builtin.cap_,run_underlying hu,goInt],by simp[VR]⟩
   |_=>trivial
  |_=>cases x<;>trivial
def b3I(x y:VV):RO:=match x,y with|.int k a,.int _ b=>.val (.int k (if b<a then b else a))|_,_=>.bad
def b3J(x y:VV):RO:=match x,y with|.int k a,.int _ b=>.val (.int k (if b>a then b else a))|_,_=>.bad
theorem a9V{P:Program}{φ:Phi}{w:World}{ts:Array TypeId}{ty:TypeId}{x y:VV}{x' y':Value}(hx:VR φ x x')(hy:VR φ y y'):ROR φ w ((Builtin.min_ ts ty #[x',y']).run P w) (b3I x y):=by
 unfold b3I
 cases x<;>first
  |trivial
  |(cases y<;>first
    |trivial
    |(simp only[VR]at hx hy;subst hx;subst hy;simp only[ROR];exact⟨_,rfl,by simp[VR]⟩))
theorem a9W{P:Program}{φ:Phi}{w:World}{ts:Array TypeId}{ty:TypeId}{x y:VV}{x' y':Value}(hx:VR φ x x')(hy:VR φ y y'):ROR φ w ((Builtin.max_ ts ty #[x',y']).run P w) (b3J x y):=by
 unfold b3J
 cases x<;>first
  |trivial
  |(cases y<;>first
    |trivial
    |(simp only[VR]at hx hy;subst hx;subst hy;simp only[ROR];exact⟨_,rfl,by simp[VR]⟩))
def isInt:VV→Bool
 |.int _ _=>true
 |_=>false
def b1w(H:VH)(x y:VV):RO:=match isInt x,isInt y with
 |true,true=>b3I x y
 |_,_=>match a5L H.base y x with
  |some true=>.val y
  |some false=>.val x
  |none=>.bad
def b1y(H:VH)(x y:VV):RO:=match isInt x,isInt y with
 |true,true=>b3J x y
 |_,_=>match a5L H.base x y with
  |some true=>.val y
  |some false=>.val x
  |none=>.bad
theorem b0Y{P:Program}{w0:World}{φ:Phi}{H:VH}{w:World}(h:HSim w0 φ H w){ts:Array TypeId}{ty:TypeId}{x y:VV}{x' y':Value}(hx:VR φ x x')(hy:VR φ y y'):ROR φ w ((Builtin.min_ ts ty #[x',y']).run P w) (b1w H x y):=by
 unfold b1w
 split
 ·exact a9V hx hy
 ·split
  ·rename_i hs
   obtain⟨k,a,b,rfl,rfl,e⟩:=a0w h.env hs hy hx
   have e':=of_decide_eq_true e.symm
   simp only[ROR]
   exact⟨.int k (if a<b then a else b),rfl,by rw[if_pos e'];exact hy⟩
  ·rename_i hs
   obtain⟨k,a,b,rfl,rfl,e⟩:=a0w h.env hs hy hx
   have e':=of_decide_eq_false e.symm
   simp only[ROR]
   exact⟨.int k (if a<b then a else b),rfl,by rw[if_neg e'];exact hx⟩
  ·trivial
theorem b0Z{P:Program}{w0:World}{φ:Phi}{H:VH}{w:World}(h:HSim w0 φ H w){ts:Array TypeId}{ty:TypeId}{x y:VV}{x' y':Value}(hx:VR φ x x')(hy:VR φ y y'):ROR φ w ((Builtin.max_ ts ty #[x',y']).run P w) (b1y H x y):=by
 unfold b1y
 split
 ·exact a9W hx hy
 ·split
  ·rename_i hs
   obtain⟨k,a,b,rfl,rfl,e⟩:=a0w h.env hs hx hy
   have e':=of_decide_eq_true e.symm
   simp only[ROR]
   exact⟨.int k (if b>a then b else a),rfl,by rw[if_pos (show b>a from e')];exact hy⟩
  ·rename_i hs
   obtain⟨k,a,b,rfl,rfl,e⟩:=a0w h.env hs hx hy
   have e':=of_decide_eq_false e.symm
   simp only[ROR]
   exact⟨.int k (if b>a then b else a),rfl,by rw[if_neg (show¬b>a from e')];exact hx⟩
  ·trivial
def a6i(x:VV)(i:Nat):RO:=match x with|.tuple vs=>RO.of (a0k vs i)|_=>.bad
theorem a6h{P:Program}{φ:Phi}{w:World}{x:VV}{x':Value}(hx:VR φ x x')(i:Nat):ROR φ w ((Instr.extract x' i).run P w) (a6i x i):=by
 unfold a6i
 cases x with
 |tuple vs=>
  simp only[VR]at hx
  obtain⟨vs',hv,rfl⟩:=hx
  refine b3h fun v h=> ?_
  rw[a1H]at h
  obtain⟨v',h1,h2⟩:=a1k _ _ hv _ _ h
  exact⟨v',by simp[Instr.extract,h1],h2⟩
 |_=>trivial
def a2i(E:Env)(x y:VV):Option Bool:=
 match x with
 |.int k a=>match y with
  |.int k' b=>match kEq k k' with|true=>some (a==b)|false=>none
  |.sint _ _=>a5N E x y
  |_=>none
 |.sint _ _=>a5N E x y
 |.string a=>match y with
  |.string b=>some (a6w a b)
  |_=>none
 |_=>none
def b0x:TypeDesc→VV→Bool
 |.int _,.int _ _=>true
 |.int _,.sint _ _=>true
 |.string,.string _=>true
 |_,_=>false
def a5b(E:Env)(k:VV):List (VV×VV×Nat)→Nat→Option (Option (Nat×VV))
 | [],_=>some none
 |e::es,i=>match a2i E k e.1 with
  |some true=>some (some (i,e.2.1))
  |some false=>a5b E k es (i+1)
  |none=>none
theorem b1e{E:Env}{w0:World}{φ:Phi}(he:EnvOK E φ w0){d:TypeDesc}{x y:VV}{x' y':Value}{r:Bool}(hd:b0x d x=true)(h:a2i E x y=some r)(hx:VR φ x x')(hy:VR φ y y'):Instr.sameNow d x' y'=some r:=by
 cases x with
 |int k a=>
  cases d<;>simp[b0x]at hd
  cases y with
  |int k' b=>
   simp only[a2i]at h
   cases hk:kEq k k' with
   |false=>rw[hk]at h;cases h
   |true=>
    rw[hk]at h
    simp only[Option.some.injEq]at h
    have e:k=k':=of_decide_eq_true hk
    simp only[VR]at hx hy;subst hx;subst hy;subst h
    simp[Instr.sameNow,e]
  |sint k' j=>
   obtain⟨k,u,v,rfl,rfl,rfl⟩:=a0x he (by simpa only[a2i]using h) hx hy
   simp[Instr.sameNow]
  |_=>simp[a2i]at h
 |sint k j=>
  cases d<;>simp[b0x]at hd
  obtain⟨k,u,v,rfl,rfl,rfl⟩:=a0x he (by simpa only[a2i]using h) hx hy
  simp[Instr.sameNow]
 |string a=>
  cases d<;>simp[b0x]at hd
  cases y with
  |string b=>
   simp only[a2i,Option.some.injEq]at h
   simp only[VR]at hx hy;subst hx;subst hy;subst h
   simp[Instr.sameNow,a5e,beq_toListBytes]
  |_=>simp[a2i]at h
 |_=>simp[a2i]at h
theorem a4K{E:Env}{w0:World}{φ:Phi}(he:EnvOK E φ w0){d:TypeDesc}{k:VV}{k':Value}(hd:b0x d k=true)(hk:VR φ k k'): ∀(xs:List (VV×VV×Nat)) (es:List MapEntry) (i:Nat) (r:Option (Nat×VV)),ERs φ xs es→a5b E k xs i=some r→
  ∃r',Instr.findNow d k' es i=some r'∧(match r with|none=>r'=none|some (j,v)=> ∃v',r'=some (j,v')∧VR φ v v')
 | [],es,i,r,h,hf=>by
  simp only[ERs]at h;subst h
  simp only[a5b,Option.some.injEq]at hf;subst hf
  exact⟨none,rfl,rfl⟩
 |x::xs,es,i,r,h,hf=>by
  simp only[ERs]at h
  obtain⟨y,ys,rfl,h1,h2,_,h5⟩:=h
  simp only[a5b]at hf
  cases hq:a2i E k x.1 with
  |none=>rw[hq]at hf;cases hf
  |some q=>
   rw[hq]at hf
   have hs:=b1e he hd hq hk h1
   cases q with
   |true=>
    simp only[Option.some.injEq]at hf
    subst hf
    exact⟨some (i,y.val),by simp[Instr.findNow,hs],y.val,rfl,h2⟩
   |false=>
    obtain⟨r',k1,k2⟩:=a4K he hd hk xs ys (i+1) r h5 hf
    exact⟨r',by simp[Instr.findNow,hs,k1],k2⟩
theorem run_checkKey{P:Program}{w:World}{φ:Phi}{t:TypeId}{d:TypeDesc}{k:VV}{k':Value}(hu:P.underlying t=some d)(hd:b0x d k=true)(hk:VR φ k k')(e:Bool)(n:Nat):(Instr.checkKey e (n+1) t k').run P w= .ok () w:=by
 cases k with
 |int kk a=>
  cases d<;>simp[b0x]at hd
  simp only[VR]at hk;subst hk
  simp[Instr.checkKey,run_underlying hu]
 |sint kk a=>
  cases d<;>simp[b0x]at hd
  simp only[VR]at hk;subst hk
  simp[Instr.checkKey,run_underlying hu]
 |string s=>
  cases d<;>simp[b0x]at hd
  simp only[VR]at hk;subst hk
  simp[Instr.checkKey,run_underlying hu]
 |_=>cases d<;>simp[b0x]at hd
def a8L(P:Program)(H:VH)(t:TypeId)(x k:VV)(ok:Bool):RO:=
 match P.underlying t with
 |some (.map kt et)=>match P.underlying kt with
  |some kd=>match b0x kd k with
   |false=>.bad
   |true=>match(match x with
     |.map none=>some ([],0)
     |.map (some b)=>mapOf H b
     |_=>none)with
    |none=>.bad
    |some (es,_)=>match a5b H.base k es 0 with
     |none=>.bad
     |some (some (_,v))=>.val (match ok with|true=>.tuple [v,.bool true]|false=>v)
     |some none=>match a1a P et with
      |none=>.bad
      |some z=>.val (match ok with|true=>.tuple [z,.bool false]|false=>z)
  |none=>.bad
 |_=>.bad
theorem a7E{P:Program}{w0:World}{φ:Phi}{H:VH}{w:World}(h:HSim w0 φ H w){t:TypeId}{x k:VV}{x' k':Value}(hx:VR φ x x')(hk:VR φ k k')(ok:Bool):
  ROR φ w ((Instr.lookup t x' k' ok).run P w) (a8L P H t x k ok):=by
 unfold a8L
 cases hu:P.underlying t with
 |none=>trivial
 |some d=>cases d with
  |map kt et=>
   simp only
   cases hkt:P.underlying kt with
   |none=>trivial
   |some kd=>
    simp only
    cases hkd:b0x kd k with
    |false=>trivial
    |true=>
     simp only
     have fin: ∀(es:List (VV×VV×Nat)) (es':List MapEntry),ERs φ es es'→(((Instr.lookup t x' k' ok).run P w=((do
        Instr.checkKey (⟨es'⟩:Array MapEntry).isEmpty 10000 kt k'
        let (v,ok')←match←Instr.findKey kt k' es' with
         |some (_,v)=>pure (v,true)
         |none=>pure (←zeroValue et,false)
        pure (if ok then .tuple #[v,.bool ok']else v):Sem Value).run P w)))→
       ROR φ w ((Instr.lookup t x' k' ok).run P w) (match a5b H.base k es 0 with
        |none=>.bad
        |some (some (_,v))=>.val (match ok with|true=>.tuple [v,.bool true]|false=>v)
        |some none=>match a1a P et with
         |none=>.bad
         |some z=>.val (match ok with|true=>.tuple [z,.bool false]|false=>z)):=by
      intro es es' hes hrun
      rw[hrun]
      cases hf:a5b H.base k es 0 with
      |none=>trivial
      |some r=>
       obtain⟨r',k1,k2⟩:=a4K h.env hkd hk es es' 0 r hes hf
       have hck: ∀e:Bool,(Instr.checkKey e 10000 kt k').run P w= .ok () w:=fun e=>run_checkKey (P:=P) (w:=w) hkt hkd hk e 9999
       have hfk:(Instr.findKey kt k' es').run P w= .ok r' w:=by simp[Instr.findKey,run_underlying hkt,k1]
       cases r with
       |some jv=>
        obtain⟨j,v⟩:=jv
        simp only at k2
        obtain⟨v',rfl,k3⟩:=k2
        simp only[ROR]
        cases ok with
        |true=>exact⟨.tuple #[v',.bool true],by simp[hck,hfk],by simp only[VR,VRs];exact⟨[v',.bool true],⟨v',_,rfl,k3,.bool true,[],rfl,rfl,rfl⟩,rfl⟩⟩
        |false=>exact⟨v',by simp[hck,hfk],k3⟩
       |none=>
        simp only at k2
        subst k2
        simp only
        cases hz:a1a P et with
        |none=>trivial
        |some z=>
         obtain⟨z',z1,z2⟩:=a4T (P:=P) (w:=w) hz φ
         simp only[ROR]
         cases ok with
         |true=>exact⟨.tuple #[z',.bool false],by simp[hck,hfk,z1],by simp only[VR,VRs];exact⟨[z',.bool false],⟨z',_,rfl,z2,.bool false,[],rfl,rfl,rfl⟩,rfl⟩⟩
         |false=>exact⟨z',by simp[hck,hfk,z1],z2⟩
     cases x with
     |map b=>cases b with
      |none=>
       simp only[VR]at hx
       subst hx
       refine fin [] [] rfl ?_
       simp[Instr.lookup,run_underlying hu]
       rfl
      |some b=>
       simp only
       cases hm:mapOf H b with
       |none=>trivial
       |some ec=>
        obtain⟨es,c⟩:=ec
        simp only[VR]at hx
        obtain⟨r,hb,rfl⟩:=hx
        obtain⟨es',hw,he⟩:=a6S h hb hm
        refine fin es es' he ?_
        simp[Instr.lookup,run_underlying hu,run_getObj_map hw]
        rfl
     |_=>trivial
  |_=>trivial
end
end Go.Ev
