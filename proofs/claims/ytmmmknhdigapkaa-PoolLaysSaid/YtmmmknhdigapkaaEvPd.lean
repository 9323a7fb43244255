/- Engine, part Pa: panics: an evaluator of code that may panic, and that it is sound. -/
import Derived.Test.YtmmmknhdigapkaaEvW
import Derived.Defers
import Derived.Recover
namespace Go.Ev
noncomputable section
inductive PX where
 |x (x:VX)
 |pan (v:VV)
abbrev PCE:=Nat→Code→VT→VH→Option (PX×VT×VH)
abbrev PFE:=FuncId→List VV→VH→Option (Bool×VV×VH)
def e0j:VV→Bool|.iface _ _=>true|_=>false
def d5Y(op:Op)(a:VT):Option VV:=match op with
 |.panic x=>match a0B a x with
  |some v=>match e0j v with
   |true=>some v
   |false=>none
  |none=>none
 |_=>none
def c9c(P:Program)(op:Op)(a:VT)(H:VH):Option (FuncId×List VV):=match op with
 |.call ⟨.value f,xs,ts⟩=>match(evE P (.call ⟨.value f,xs,ts⟩) a H).get with
  |.enter f args=>some (f,args)
  |_=>none
 |_=>none
def d5a(P:Program)(pf:PFE)(op:Op)(a:VT)(H:VH):Option (Bool×VV×VH):=match c9c P op a H with
 |some (f,args)=>pf f args H
 |none=>none
def c7p(P:Program)(fe:FE)(pf:PFE)(op:Op)(a:VT)(H:VH):Option (Bool×VV×VH):=match d5Y op a with
 |some v=>some (false,v,H)
 |none=>match d5a P pf op a H with
  |some r=>some r
  |none=>match a2m P fe op a H with
   |some (v,H₁)=>some (true,v,H₁)
   |none=>none
def d3F(P:Program)(fe:FE)(pf:PFE)(nt:Nat)(all:List Oper):List Oper→VT→VH→Option (PX×VT×VH)
 | [],a,H=>some (.x .normal,a,H)
 |o::l,a,H=>match gOk all a o.guard with
  |false=>none
  |true=>match a1s all a o.guard with
   |true=>match c7p P fe pf o.op a H with
    |some (t,v,H₁)=>match t with
     |true=>match a4C nt a o.dst v with
      |some a₁=>d3F P fe pf nt all l a₁ H₁
      |none=>none
     |false=>some (.pan v,a,H₁)
    |none=>none
   |false=>match a4C nt a o.dst a2n with
    |some a₁=>d3F P fe pf nt all l a₁ H
    |none=>none
def a6n(P:Program)(draw:DE)(fe:FE)(rc:PCE)(pf:PFE):PCE:=fun nt c a H=>
 match c with
 |.skip=>some (.x .normal,a,H)
 |.region _ ⟨ops⟩ false=>d3F P fe pf nt ops ops a H
 |.region _ ⟨ops⟩ true=>match draw nt ops a H with
  |some (a,H)=>some (.x .normal,a,H)
  |none=>none
 |.seq x y=>match rc nt x a H with
  |some (.x .normal,a,H)=>rc nt y a H
  |r=>r
 |.cond c x y=>match a0B a c with
  |some (.bool b)=>match b with
   |true=>rc nt x a H
   |false=>rc nt y a H
  |_=>none
 |.block id c=>match rc nt c a H with
  |some (.x (.exit j),a,H)=>match Nat.beq j id with
   |true=>some (.x .normal,a,H)
   |false=>some (.x (.exit j),a,H)
  |r=>r
 |.loop c=>match rc nt c a H with
  |some (.x .normal,a,H)=>rc nt (.loop c) a H
  |r=>r
 |.exit id=>some (.x (.exit id),a,H)
 |.ret=>some (.x .ret,a,H)
 |.scope c=>rc nt c a H
 |.label _=>some (.x .normal,a,H)
 |_=>none
def c3z(mp:List FuncId)(P:Program)(rc:PCE):PFE:=fun f args H=>match a8x f mp with
 |false=>none
 |true=>match P.funcs[f]? with
  |some fn=>match fn.body with
   |some c=>match Nat.ble args.length fn.ntmps,Nat.ble fn.ntmps top with
    |true,true=>match rc fn.ntmps c (a3r args 0 .lf) H with
     |some (.x (.exit _),_,_)=>none
     |some (.x _,a,H)=>match a5r P a H fn.results.toList with
      |some l=>some (true,c2V l,H)
      |none=>none
     |some (.pan v,_,H)=>some (false,v,H)
     |none=>none
    |_,_=>none
   |none=>none
  |none=>none
def pN(P:Program)(dr:DE)(fe:FE)(mp:List FuncId)(n:Nat):PCE×PFE:=
 Nat.rec (fun _ _ _ _=>none,fun _ _ _=>none) (fun _ ih=>(a6n P dr fe ih.1 ih.2,c3z mp P ih.1)) n
def b7i(v:Value):List PanicEntry:=[{v:=v,recovered:=false}]
def XR(φ:Phi):PX→Exit→Prop
 |.x x,e=>e=x.real
 |.pan v,e=> ∃v',e= .panic (b7i v')∧VR φ v v'
def e2f(t:Bool)(v:Value):Ending:=match t with|true=>.returned v|false=>.panicked (b7i v)
def PostD[Ext](w0:World)(φ:Phi)(w:World)(sz:Nat)(H:VH)(D:List Deferred)(x:PX)(a₁:VT)(H₁:VH)(e:Exit)(act':Act)(w':World):Prop:=
 ∃φ',XR φ' x e∧St φ w φ' w'∧TR φ' a₁ act'.tmps∧HSim w0 φ' H₁ w'∧H₁.base=H.base∧act'.tmps.size=sz∧act'.defers=D
theorem PostD.trans[Ext]{w0:World}{φ φ':Phi}{w w':World}{sz:Nat}{H H₁ H₂:VH}{D:List Deferred}{x:PX}{a₂:VT}{e:Exit}{act':Act}{w'':World}(hs:St φ w φ' w')(hb:H₁.base=H.base)(h:PostD w0 φ' w' sz H₁ D x a₂ H₂ e act' w''):PostD w0 φ w sz H D x a₂ H₂ e act' w'':=by
 obtain⟨ψ,h1,h2,h3,h4,h5,h6,h7⟩:=h
 exact⟨ψ,h1,hs.trans h2,h3,h4,h5.trans hb,h6,h7⟩
def d0F[Ext](P:Program)(DD:List Deferred→Prop)(ce:PCE):Prop:= ∀w0 nt c a H x a₁ H₁,ce nt c a H=some (x,a₁,H₁)→nt≤top→ ∀(φ:Phi) (act:Act) (w:World),TR φ a act.tmps→HSim w0 φ H w→nt≤act.tmps.size→DD act.defers→
 c.wpIn (Fr none) 0 P (PostD w0 φ w act.tmps.size H act.defers x a₁ H₁) act w
def e1P[Ext](P:Program)(DD:List Deferred→Prop)(de:DE):Prop:= ∀w0 nt id ops a H a₁ H₁,de nt ops a H=some (a₁,H₁)→nt≤top→ ∀(φ:Phi) (act:Act) (w:World),TR φ a act.tmps→HSim w0 φ H w→nt≤act.tmps.size→DD act.defers→
 (Code.region id ⟨ops⟩ true).wpIn (Fr none) 0 P (PostD w0 φ w act.tmps.size H act.defers (.x .normal) a₁ H₁) act w
def d2p[Ext](P:Program)(w0:World)(f:FuncId)(args:List VV)(H:VH)(t:Bool)(v:VV)(H':VH):Prop:=
 ∀(φ:Phi) (w:World) (args':List Value),VRs φ args args'→HSim w0 φ H w→
  Calls P f ⟨args'⟩ w fun e w'=> ∃v' φ',e=e2f t v'∧St φ w φ' w'∧VR φ' v v'∧HSim w0 φ' H' w'∧H'.base=H.base
def d3W[Ext](P:Program)(pf:PFE):Prop:= ∀w0 f args H t v H',pf f args H=some (t,v,H')→d2p P w0 f args H t v H'
theorem c8m[Ext]{P:Program}{de:DE}(h:d3X P de):e1P P (· = []) de:=by
 intro w0 nt id ops a H a₁ H₁ hd hn φ act w ht hs hz hD
 refine wpIn_mono (h w0 nt id ops a H a₁ H₁ hd hn none φ act w ht hs hz (fun _=>False) (by rw[hD];exact .nil)) ?_
 rintro e act' w' ⟨φ',k1,k2,k3,k4,k5,k6,⟨rs,m1,m2,m3⟩⟩
 refine⟨φ',k1,k2,k3,k4,k5,k6, ?_⟩
 cases rs with
 |nil=>rw[hD];exact m1
 |cons r rs=>exact(m3 r (by simp)).1.elim
theorem c6N[Ext]{P:Program}:e1P P (fun _=>True) (fun _ _ _ _=>none):=fun _ _ _ _ _ _ _ _ h=>by cases h
section
variable{P:Program}
theorem b8q[Ext](hng:a4B P){fe:FE}(hfe:FEok P fe){pf:PFE}(hpf:d3W P pf){w0:World}{φ:Phi}{w:World}{a:VT}{act:Act}{H:VH}(ht:TR φ a act.tmps)(hs:HSim w0 φ H w){o:Oper}{t:Bool}{v:VV}{H₁:VH}(h:c7p P fe pf o.op a H=some (t,v,H₁))
  (K:Act→World→Prop) (Q:Exit→Act→World→Prop)
  (hK: ∀v' w₁ φ₁,St φ w φ₁ w₁→VR φ₁ v v'→HSim w0 φ₁ H₁ w₁→H₁.base=H.base→match t with|true=>K (act.put o.dst v') w₁|false=>Q (.panic (b7i v')) act w₁):o.wpIn (Fr none) 0 P act w K Q:=by
 unfold c7p at h
 split at h
 ·rename_i u hu
  simp only[Option.some.injEq,Prod.mk.injEq]at h
  obtain⟨rfl,rfl,rfl⟩:=h
  obtain⟨dst,op,type,pos,after,guard⟩:=o
  unfold d5Y at hu
  split at hu
  ·rename_i op x hop
   simp only at hop
   subst hop
   cases hx:a0B a x with
   |none=>rw[hx]at hu;cases hu
   |some y=>
    rw[hx]at hu
    simp only at hu
    cases y with
    |iface T z=>
     simp only[e0j,Option.some.injEq]at hu
     subst hu
     have hv:=a0A ht hx
     simp only[VR]at hv
     obtain⟨z',hz2,hz⟩:=hv
     refine⟨fun _ _=>trivial, ?_⟩
     rw[show(Fr none).round=none from rfl,Oper.semAt_eq _ _ _ (by intro c e;cases e)]
     have hr:(execOp act.eval ⟨dst,.panic x,type,pos,after,guard⟩).run P w= .halt (.panic (.iface T z')) w:=by
      simp only[execOp,hz,Instr.panic]
      rfl
     rw[hr]
     exact hK (.iface T z') w φ (.refl φ w) (by simp only[VR];exact⟨z',hz2,rfl⟩) hs rfl
    |_=>simp[e0j]at hu
  ·cases hu
 ·split at h
  ·rename_i r hr
   simp only[Option.some.injEq]at h
   subst h
   unfold d5a at hr
   split at hr
   ·rename_i f args he
    unfold c9c at he
    split at he
    ·rename_i op g xs ts hop
     split at he
     ·rename_i f' args' hg
      simp only[Option.some.injEq,Prod.mk.injEq]at he
      obtain⟨rfl,rfl⟩:=he
      have hgo:=a6P (a6B hng ht hs o)
      rw[hop,hg]at hgo
      simp only at hgo
      obtain⟨args'',h1,h2⟩:=hgo
      refine⟨fun _ _=>trivial, ?_⟩
      rw[show(Fr none).round=none from rfl,Oper.semAt_eq _ _ _ (by intro c e;rw[hop]at e;cases e),h1]
      refine⟨(fun hx=>by cases hx), ?_⟩
      refine a4p.2 ((hpf w0 _ _ H t v H₁ hr φ w args'' h2 hs).mono ?_)
      rintro e w' ⟨v',φ',rfl,k1,k2,k3,k4⟩
      have:=hK v' w' φ' k1 k2 k3 k4
      cases t with
      |true=>exact this
      |false=>exact this
     ·cases he
    ·cases he
   ·cases hr
  ·split at h
   ·rename_i v1 H1 hr
    simp only[Option.some.injEq,Prod.mk.injEq]at h
    obtain⟨rfl,rfl,rfl⟩:=h
    exact a7V hng hfe ht hs (a3a hr) hr none K Q hK
   ·cases h
theorem c2T[Ext](hng:a4B P){fe:FE}(hfe:FEok P fe){pf:PFE}(hpf:d3W P pf){w0:World}{nt:Nat}(hb:nt≤top){all:List Oper}: ∀(l pre:List Oper) (a:VT) (H:VH) (x:PX) (a₁:VT) (H₁:VH),all=pre++l→d3F P fe pf nt all l a H=some (x,a₁,H₁)→
  ∀(φ:Phi) (act:Act) (w:World),TR φ a act.tmps→HSim w0 φ H w→nt≤act.tmps.size→ ∀(Q:Exit→Act→World→Prop),(∀e act' w',PostD w0 φ w act.tmps.size H act.defers x a₁ H₁ e act' w'→Q e act' w')→
  wpOpsIn (Fr none) 0 P ⟨all⟩ Q (List.range' pre.length l.length) act w:=by
 intro l
 induction l with
 |nil=>
  intro pre a H x a₁ H₁ _ h φ act w ht hs hn Q hQ
  simp only[d3F,Option.some.injEq,Prod.mk.injEq]at h
  obtain⟨rfl,rfl,rfl⟩:=h
  exact hQ _ act w ⟨φ,rfl,.refl φ w,ht,hs,rfl,rfl,rfl⟩
 |cons o l ih=>
  intro pre a H x a₁ H₁ hall h φ act w ht hs hn Q hQ
  have hget:(⟨all⟩:Array Oper)[pre.length]? =some o:=by simp[hall]
  simp only[List.length_cons,List.range'_succ,wpOpsIn,hget]
  have hall':all=(pre++ [o])++l:=by simp[hall]
  have hlen:(pre++ [o]).length=pre.length+1:=by simp
  simp only[d3F]at h
  cases hgo:gOk all a o.guard with
  |false=>rw[hgo]at h;cases h
  |true=>
  rw[hgo]at h
  simp only at h
  have hwant:=a2g (ops:=all) ht o hgo
  cases hw:a1s all a o.guard with
  |true=>
   rw[hw]at h hwant
   rw[if_pos hwant]
   simp only at h
   cases hr:c7p P fe pf o.op a H with
   |none=>rw[hr]at h;cases h
   |some vh=>
    obtain⟨t,v,H'⟩:=vh
    rw[hr]at h
    simp only at h
    refine b8q hng hfe hpf ht hs hr _ _ ?_
    intro v' w₁ φ₁ k1 k2 k3 k4
    cases t with
    |true=>
     simp only at h ⊢
     cases hp:a4C nt a o.dst v with
     |none=>rw[hp]at h;cases h
     |some a'=>
      rw[hp]at h
      simp only at h
      obtain⟨p1,p2,p3⟩:=a0z (ht.mono k1.le) hn hb k2 hp
      have:=ih (pre++ [o]) a' H' x a₁ H₁ hall' h φ₁ (act.put o.dst v') w₁ p1 k3 (by omega) Q (fun e act' w' hp'=>hQ e act' w' (by rw[p2,p3]at hp';exact PostD.trans k1 k4 hp'))
      rwa [hlen]at this
    |false=>
     simp only[Option.some.injEq,Prod.mk.injEq]at h ⊢
     obtain⟨rfl,rfl,rfl⟩:=h
     exact hQ _ act w₁ ⟨φ₁,⟨v',rfl,k2⟩,k1,ht.mono k1.le,k3,k4,rfl,rfl⟩
  |false=>
   rw[hw]at h hwant
   rw[if_neg (by simp[hwant])]
   simp only at h
   refine⟨fun _ _=>trivial, ?_⟩
   cases hp:a4C nt a o.dst a2n with
   |none=>rw[hp]at h;cases h
   |some a'=>
    rw[hp]at h
    simp only at h
    obtain⟨p1,p2,p3⟩:=a0z ht hn hb (a1k φ) hp
    have:=ih (pre++ [o]) a' H x a₁ H₁ hall' h φ (act.put o.dst undef) w p1 hs (by omega) Q (fun e act' w' hp'=>hQ e act' w' (by rw[p2,p3]at hp';exact hp'))
    rwa [hlen]at this
end
end
end Go.Ev
namespace Go.Ev
noncomputable section
def PLoopOK[Ext](P:Program)(DD:List Deferred→Prop)(w0:World)(nt:Nat)(c:Code)(a:VT)(H:VH)(x:PX)(a₁:VT)(H₁:VH):Prop:=
 ∃m,∀(φ:Phi) (act:Act) (w:World),TR φ a act.tmps→HSim w0 φ H w→nt≤act.tmps.size→DD act.defers→ ∀Q:Exit→Act→World→Prop,(∀e act' w',PostD w0 φ w act.tmps.size H act.defers x a₁ H₁ e act' w'→Q e act' w')→
  Code.roundsIn (Fr none) 0 P c Q m act w
section
variable{P:Program}{DD:List Deferred→Prop}{rc:PCE}{fe:FE}{de:DE}{pf:PFE}
theorem PLoopOK.wp[Ext]{w0:World}{nt:Nat}{c:Code}{a:VT}{H:VH}{x:PX}{a₁:VT}{H₁:VH}(h:PLoopOK P DD w0 nt c a H x a₁ H₁)(φ:Phi)(act:Act)(w:World)(ht:TR φ a act.tmps)(hs:HSim w0 φ H w)(hn:nt≤act.tmps.size)(hd:DD act.defers):
  (Code.loop c).wpIn (Fr none) 0 P (PostD w0 φ w act.tmps.size H act.defers x a₁ H₁) act w:=by
 obtain⟨m,hm⟩:=h
 exact wpIn_loop_rounds m (hm φ act w ht hs hn hd _ fun _ _ _ k=>k)
theorem a9E[Ext](hl: ∀w0 nt c a H x a₁ H₁,rc nt (.loop c) a H=some (x,a₁,H₁)→nt≤top→PLoopOK P DD w0 nt c a H x a₁ H₁)(hrc:d0F P DD rc):
  ∀w0 nt c a H x a₁ H₁,a6n P de fe rc pf nt (.loop c) a H=some (x,a₁,H₁)→nt≤top→PLoopOK P DD w0 nt c a H x a₁ H₁:=by
 intro w0 nt c a H x a₁ H₁ h hb
 simp only[a6n]at h
 cases hy:rc nt c a H with
 |none=>rw[hy]at h;cases h
 |some t=>
  obtain⟨e,a',H'⟩:=t
  rw[hy]at h
  have stop:some (e,a',H')=some (x,a₁,H₁)→(∀φ e',XR φ e e'→e'≠ .normal)→PLoopOK P DD w0 nt c a H x a₁ H₁:=by
   intro he hne
   simp only[Option.some.injEq,Prod.mk.injEq]at he
   obtain⟨rfl,rfl,rfl⟩:=he
   refine⟨1,fun φ act w ht hs hn hd Q hQ=> ?_⟩
   rw[roundsIn_succ]
   refine wpIn_mono (hrc w0 nt c a H _ a' H' hy hb φ act w ht hs hn hd) ?_
   intro e' act' w' hp
   have hne':e'≠ .normal:=by obtain⟨φ',he,_⟩:=hp;exact hne φ' e' he
   cases e' with
   |normal=>exact absurd rfl hne'
   |_=>exact hQ _ _ _ hp
  cases e with
  |pan v=>exact stop h (by rintro φ e' ⟨v',rfl,_⟩;simp)
  |x y=>
   cases y with
   |normal=>
    simp only at h
    obtain⟨m,hm⟩:=hl w0 nt c a' H' x a₁ H₁ h hb
    refine⟨m+1,fun φ act w ht hs hn hd Q hQ=> ?_⟩
    rw[roundsIn_succ]
    refine wpIn_mono (hrc w0 nt c a H _ a' H' hy hb φ act w ht hs hn hd) ?_
    intro e act' w' hp
    obtain⟨φ',rfl,k2,k3,k4,k5,k6,k7⟩:=hp
    refine hm φ' act' w' k3 k4 (by omega) (by rw[k7];exact hd) Q fun e'' act'' w'' hp'=>hQ e'' act'' w'' ?_
    rw[k6,k7]at hp'
    exact PostD.trans k2 k5 hp'
   |ret=>exact stop h (by rintro φ e' rfl;simp[VX.real])
   |exit id=>exact stop h (by rintro φ e' rfl;simp[VX.real])
theorem b1Z[Ext](hng:a4B P)(hrc:d0F P DD rc)(hfe:FEok P fe)(hde:e1P P DD de)(hpf:d3W P pf)(hl: ∀w0 nt c a H x a₁ H₁,rc nt (.loop c) a H=some (x,a₁,H₁)→nt≤top→PLoopOK P DD w0 nt c a H x a₁ H₁):d0F P DD (a6n P de fe rc pf):=by
 intro w0 nt c a H x a₁ H₁ h hb φ act w ht hs hn hd
 have self: ∀y,PostD w0 φ w act.tmps.size H act.defers (.x y) a H (VX.real y) act w:=fun y=>⟨φ,rfl,.refl φ w,ht,hs,rfl,rfl,rfl⟩
 cases c with
 |loop c=>exact(a9E hl hrc w0 nt c a H x a₁ H₁ h hb).wp φ act w ht hs hn hd
 |skip=>
  simp only[a6n,Option.some.injEq,Prod.mk.injEq]at h
  obtain⟨rfl,rfl,rfl⟩:=h
  exact wpIn_skip (self .normal)
 |region id ops draw=>
  obtain⟨ops⟩:=ops
  cases draw with
  |false=>
   simp only[a6n]at h
   have:=c2T hng hfe hpf (w0:=w0) hb ops [] a H x a₁ H₁ rfl h φ act w ht hs hn _ (fun _ _ _ k=>k)
   refine wpIn_region ?_
   have e:List.range (⟨ops⟩:Array Oper).size=List.range' ([]:List Oper).length ops.length:=by simp[List.range_eq_range']
   rw[e]
   exact this
  |true=>
   simp only[a6n]at h
   cases hr:de nt ops a H with
   |none=>rw[hr]at h;cases h
   |some ah=>
    obtain⟨a',H'⟩:=ah
    rw[hr]at h
    simp only[Option.some.injEq,Prod.mk.injEq]at h
    obtain⟨rfl,rfl,rfl⟩:=h
    exact hde w0 nt id ops a H a' H' hr hb φ act w ht hs hn hd
 |seq y z=>
  simp only[a6n]at h
  refine wpIn_seq ?_
  cases hy:rc nt y a H with
  |none=>rw[hy]at h;cases h
  |some t=>
   obtain⟨e,a',H'⟩:=t
   rw[hy]at h
   have k:=hrc w0 nt y a H e a' H' hy hb φ act w ht hs hn hd
   refine wpIn_mono k ?_
   intro e' act' w' hp
   have stop:some (e,a',H')=some (x,a₁,H₁)→PostD w0 φ w act.tmps.size H act.defers x a₁ H₁ e' act' w':=by
    intro he
    simp only[Option.some.injEq,Prod.mk.injEq]at he
    obtain⟨rfl,rfl,rfl⟩:=he
    exact hp
   cases e with
   |pan v=>
    have:=stop h
    obtain⟨φ',⟨v',rfl,_⟩,_⟩:=hp
    exact this
   |x y=>
    cases y with
    |normal=>
     simp only at h
     obtain⟨φ',rfl,k2,k3,k4,k5,k6,k7⟩:=hp
     have k':=hrc w0 nt z a' H' x a₁ H₁ h hb φ' act' w' k3 k4 (by omega) (by rw[k7];exact hd)
     refine wpIn_mono k' ?_
     intro e'' act'' w'' hp'
     rw[k6,k7]at hp'
     exact PostD.trans k2 k5 hp'
    |ret=>
     have:=stop h
     obtain⟨φ',rfl,_⟩:=hp
     exact this
    |exit id=>
     have:=stop h
     obtain⟨φ',rfl,_⟩:=hp
     exact this
 |cond c y z=>
  simp only[a6n]at h
  cases hc:a0B a c with
  |none=>rw[hc]at h;cases h
  |some v=>cases v with
   |bool b=>
    rw[hc]at h
    have hv:=a0A ht hc
    simp only[VR]at hv
    refine wpIn_cond hv ?_
    cases b with
    |true=>exact hrc w0 nt y a H x a₁ H₁ h hb φ act w ht hs hn hd
    |false=>exact hrc w0 nt z a H x a₁ H₁ h hb φ act w ht hs hn hd
   |_=>rw[hc]at h;cases h
 |block id c=>
  simp only[a6n]at h
  refine wpIn_block ?_
  cases hy:rc nt c a H with
  |none=>rw[hy]at h;cases h
  |some t=>
   obtain⟨e,a',H'⟩:=t
   rw[hy]at h
   have k:=hrc w0 nt c a H e a' H' hy hb φ act w ht hs hn hd
   refine wpIn_mono k ?_
   intro e' act' w' hp
   have stop:some (e,a',H')=some (x,a₁,H₁)→PostD w0 φ w act.tmps.size H act.defers x a₁ H₁ e' act' w':=by
    intro he
    simp only[Option.some.injEq,Prod.mk.injEq]at he
    obtain⟨rfl,rfl,rfl⟩:=he
    exact hp
   cases e with
   |pan v=>
    have:=stop h
    obtain⟨φ',⟨v',rfl,_⟩,_⟩:=hp
    exact this
   |x y=>
    cases y with
    |normal=>
     have:=stop h
     obtain⟨φ',rfl,_⟩:=hp
     exact this
    |ret=>
     have:=stop h
     obtain⟨φ',rfl,_⟩:=hp
     exact this
    |exit j=>
     obtain⟨φ',rfl,k2⟩:=hp
     simp only at h
     simp only[VX.real,Exit.inBlock]
     cases hj:Nat.beq j id with
     |true=>
      rw[hj]at h
      simp only[Option.some.injEq,Prod.mk.injEq]at h
      obtain⟨rfl,rfl,rfl⟩:=h
      rw[if_pos (Nat.eq_of_beq_eq_true hj)]
      exact⟨φ',rfl,k2⟩
     |false=>
      rw[hj]at h
      simp only[Option.some.injEq,Prod.mk.injEq]at h
      obtain⟨rfl,rfl,rfl⟩:=h
      rw[if_neg (by intro e;rw[e]at hj;simp at hj)]
      exact⟨φ',rfl,k2⟩
 |exit id=>
  simp only[a6n,Option.some.injEq,Prod.mk.injEq]at h
  obtain⟨rfl,rfl,rfl⟩:=h
  exact wpIn_exit (self (.exit id))
 |ret=>
  simp only[a6n,Option.some.injEq,Prod.mk.injEq]at h
  obtain⟨rfl,rfl,rfl⟩:=h
  exact wpIn_ret (self .ret)
 |label l=>
  simp only[a6n,Option.some.injEq,Prod.mk.injEq]at h
  obtain⟨rfl,rfl,rfl⟩:=h
  exact wpIn_label (self .normal)
 |scope c=>
  simp only[a6n]at h
  refine b3Z (wpIn_mono (hrc w0 nt c a H x a₁ H₁ h hb φ act w ht hs hn hd) ?_)
  intro e act' w' hp
  cases e with
  |goto l=>
   obtain⟨φ',hx,_⟩:=hp
   cases x with
   |x y=>cases y<;>cases hx
   |pan v=>obtain⟨v',hx,_⟩:=hx;cases hx
  |_=>exact hp
 |_=>simp[a6n]at h
theorem b9p{φ:Phi}{args:List VV}{args':List Value}(ha:VRs φ args args'){nt:Nat}(h1:args.length≤nt)(h2:nt≤top):TR φ (a3r args 0 .lf) ((⟨args'⟩:Array Value)++Array.replicate (nt-(⟨args'⟩:Array Value).size) undef):=by
 have hl:=a0M _ _ ha
 intro t
 rw[a5u args 0 .lf t (by omega)]
 simp only[Array.getD_eq_getD_getElem?,Array.getElem?_append,List.size_toArray]
 by_cases hk:0≤t∧t<0+args.length
 ·rw[if_pos hk,if_pos (by omega)]
  obtain⟨x,hx⟩: ∃x,args[t-0]? =some x:=⟨args[t]'(by omega),by simp[show t<args.length by omega]⟩
  obtain⟨y,hy1,hy2⟩:=a2L _ _ ha _ x hx
  rw[hx]
  simp only[Option.getD_some]
  rw[show((⟨args'⟩:Array Value)[t]?)=some y by simpa using hy1]
  exact hy2
 ·rw[if_neg hk,if_neg (by omega)]
  have:(Array.replicate (nt-args'.length) undef)[t-args'.length]?.getD undef=undef:=by
   rw[Array.getElem?_replicate]
   split<;>rfl
  rw[this]
  exact a1k φ
theorem b6c[Ext]{mp:List FuncId}(hrc:d0F P (· = []) rc):d3W P (c3z mp P rc):=by
 intro w0 f args H t v H' h φ w args' ha hs
 unfold c3z at h
 cases hm:a8x f mp with
 |false=>rw[hm]at h;cases h
 |true=>
 rw[hm]at h
 simp only at h
 cases hf:P.funcs[f]? with
 |none=>rw[hf]at h;cases h
 |some fn=>
  rw[hf]at h
  simp only at h
  cases hb:fn.body with
  |none=>rw[hb]at h;cases h
  |some c=>
   rw[hb]at h
   simp only at h
   cases h1:Nat.ble args.length fn.ntmps with
   |false=>rw[h1]at h;cases h
   |true=>cases h2:Nat.ble fn.ntmps top with
    |false=>rw[h1,h2]at h;cases h
    |true=>
     rw[h1,h2]at h
     simp only at h
     have h1':args.length≤fn.ntmps:=Nat.le_of_ble_eq_true h1
     have h2':fn.ntmps≤top:=Nat.le_of_ble_eq_true h2
     have hl:=a0M _ _ ha
     cases hr:rc fn.ntmps c (a3r args 0 .lf) H with
     |none=>rw[hr]at h;cases h
     |some q=>
      obtain⟨x,a₁,H₁⟩:=q
      rw[hr]at h
      have hsz:fn.ntmps≤((⟨args'⟩:Array Value)++Array.replicate (fn.ntmps-(⟨args'⟩:Array Value).size) undef).size:=by simp;omega
      have k:=hrc w0 fn.ntmps c _ H x a₁ H₁ hr h2' φ {tmps:=(⟨args'⟩:Array Value)++Array.replicate (fn.ntmps-(⟨args'⟩:Array Value).size) undef,defers:=[]} w (b9p ha h1' h2') hs hsz rfl
      refine calls_of_wp hf hb (wpIn_wide.1 (wpIn_mono k ?_))
      intro e act' w' hp
      obtain⟨φ',hx,k2,k3,k4,k5,k6,k7⟩:=hp
      have fin: ∀(_:(match a5r P a₁ H₁ fn.results.toList with|some l=>some (true,c2V l,H₁)|none=>none)=some (t,v,H')),act'.defers= []∧ ∃u,(results fn act'.tmps).run P w'= .ok u w'∧ ∃v' φ',Ending.returned u=e2f t v'∧St φ w φ' w'∧VR φ' v v'∧HSim w0 φ' H' w'∧H'.base=H.base:=by
       intro hx
       cases hq:a5r P a₁ H₁ fn.results.toList with
       |none=>rw[hq]at hx;cases hx
       |some l=>
        rw[hq]at hx
        simp only[Option.some.injEq,Prod.mk.injEq]at hx
        obtain⟨rfl,rfl,rfl⟩:=hx
        obtain⟨v',r1,r2⟩:=a0w (P:=P) k3 k4 hq
        exact⟨k7,v',r1,v',φ',rfl,k2,r2,k4,k5⟩
      cases x with
      |pan u=>
       simp only[Option.some.injEq,Prod.mk.injEq]at h
       obtain⟨rfl,rfl,rfl⟩:=h
       obtain⟨v',rfl,hv⟩:=hx
       exact⟨k7,v',φ',rfl,k2,hv,k4,k5⟩
      |x y=>
       cases y with
       |normal=>cases hx;exact fin h
       |ret=>cases hx;exact fin h
       |exit id=>cases h
end
theorem c7q[Ext]{P:Program}(hng:a4B P){de:DE}(hde:d3X P de){fe:FE}(hfe:FEok P fe){mp:List FuncId}: ∀n,
  ((∀w0 nt c a H x a₁ H₁,(pN P de fe mp n).1 nt (.loop c) a H=some (x,a₁,H₁)→nt≤top→PLoopOK P (· = []) w0 nt c a H x a₁ H₁)∧d0F P (· = []) (pN P de fe mp n).1)∧d3W P (pN P de fe mp n).2:=by
 intro n
 induction n with
 |zero=>
  refine⟨⟨?_, ?_⟩, ?_⟩
  ·intro w0 nt c a H x a₁ H₁ h;cases h
  ·intro w0 nt c a H x a₁ H₁ h;cases h
  ·intro w0 f args H t v H' h;cases h
 |succ n ih=>
  obtain⟨⟨i1,i2⟩,i3⟩:=ih
  exact⟨⟨a9E (de:=de) (fe:=fe) (pf:=(pN P de fe mp n).2) i1 i2,b1Z hng i2 hfe (c8m hde) i3 i1⟩,b6c i2⟩
def pcN(P:Program)(fe:FE)(pf:PFE)(n:Nat):PCE:=Nat.rec (fun _ _ _ _=>none) (fun _ ih=>a6n P (fun _ _ _ _=>none) fe ih pf) n
theorem c4Y[Ext]{P:Program}(hng:a4B P){fe:FE}(hfe:FEok P fe){pf:PFE}(hpf:d3W P pf): ∀n,
  (∀w0 nt c a H x a₁ H₁,pcN P fe pf n nt (.loop c) a H=some (x,a₁,H₁)→nt≤top→PLoopOK P (fun _=>True) w0 nt c a H x a₁ H₁)∧d0F P (fun _=>True) (pcN P fe pf n):=by
 intro n
 induction n with
 |zero=>
  refine⟨?_, ?_⟩
  ·intro w0 nt c a H x a₁ H₁ h;cases h
  ·intro w0 nt c a H x a₁ H₁ h;cases h
 |succ n ih=>exact⟨a9E (de:=fun _ _ _ _=>none) (fe:=fe) (pf:=pf) ih.1 ih.2,b1Z hng ih.2 hfe c6N hpf ih.1⟩
end
end Go.Ev
namespace Go.Ev
noncomputable section
def d1m:FE:=⟨fun _ _ _=>none,fun _ _ _=>none⟩
inductive RM where
 |none
 |live (v:VV)
 |done
def c5K:Op→Bool
 |.call ⟨.builtin .recover,_,_⟩=>true
 |_=>false
def d5M:RM→VV
 |.live v=>v
 |_=>.nilIface
def d9z:RM→RM
 |.live _=>.done
 |m=>m
def d7j:Option (Nat×Bool)→Bool|none=>true|some _=>false
def c9V(P:Program)(nt:Nat):List Oper→VT→VH→RM→Option (VT×VH×RM)
 | [],a,H,M=>some (a,H,M)
 |o::l,a,H,M=>match d7j o.guard with
  |false=>none
  |true=>match c5K o.op with
   |true=>match a4C nt a o.dst (d5M M)with
    |some a₁=>c9V P nt l a₁ H (d9z M)
    |none=>none
   |false=>match a2m P d1m o.op a H with
    |some (v,H₁)=>match a4C nt a o.dst v with
     |some a₁=>c9V P nt l a₁ H₁ M
     |none=>none
    |none=>none
def c1C:List Oper→Bool
 | []=>false
 |o::l=>match c5K o.op with|true=>true|false=>c1C l
def rC(P:Program)(rc:CE)(n:Nat):Nat→Code→VT→VH→RM→Option (VX×VT×VH×RM):=
 Nat.rec (fun _ _ _ _ _=>none) (fun _ ih=>fun nt c a H M=>match c with
  |.seq x y=>match ih nt x a H M with
   |some (.normal,a,H,M)=>ih nt y a H M
   |r=>r
  |.cond c x y=>match a0B a c with
   |some (.bool b)=>match b with
    |true=>ih nt x a H M
    |false=>ih nt y a H M
   |_=>none
  |.region id ⟨ops⟩ false=>match c1C ops with
   |true=>match c9V P nt ops a H M with
    |some (a,H,M)=>some (.normal,a,H,M)
    |none=>none
   |false=>match rc nt (.region id ⟨ops⟩ false) a H with
    |some (x,a,H)=>some (x,a,H,M)
    |none=>none
  |c=>match rc nt c a H with
   |some (x,a,H)=>some (x,a,H,M)
   |none=>none) n
def rF(P:Program)(rc:CE)(n:Nat)(g:FuncId)(args:List VV)(H:VH)(M:RM):Option (VH×RM):=match P.funcs[g]? with
 |some fn=>match fn.body with
  |some c=>match Nat.ble args.length fn.ntmps,Nat.ble fn.ntmps top with
   |true,true=>match rC P rc n fn.ntmps c (a3r args 0 .lf) H M with
    |some (.exit _,_,_,_)=>none
    |some (_,a,H,M)=>match a5r P a H fn.results.toList with
     |some _=>some (H,M)
     |none=>none
    |none=>none
   |_,_=>none
  |none=>none
 |none=>none
def MR(φ:Phi):RM→FrameMode→Prop
 |.none,u=>u= .returning
 |.live v,u=> ∃v',u= .panicking (b7i v')∧VR φ v v'
 |.done,u=> ∃v',u= .panicking [{v:=v',recovered:=true}]
theorem MR.mono{φ φ':Phi}(h:φ.le φ'): ∀{M:RM} {u:FrameMode},MR φ M u→MR φ' M u
 |.none,_,k=>k
 |.live _,_,⟨v',k1,k2⟩=>⟨v',k1,k2.mono h⟩
 |.done,_,k=>k
def PostS[Ext](w0:World)(φ:Phi)(w:World)(sz:Nat)(H:VH)(c₀:Frame)(cs:List Frame)(x:VX)(a₁:VT)(H₁:VH)(M₁:RM)(e:Exit)(act':Act)(cs':List Frame)(w':World):Prop:=
 ∃φ' u',e=x.real∧cs'={c₀ with mode:=u'}::cs∧MR φ' M₁ u'∧St φ w φ' w'∧TR φ' a₁ act'.tmps∧HSim w0 φ' H₁ w'∧H₁.base=H.base∧act'.tmps.size=sz∧act'.defers= []
theorem PostS.trans[Ext]{w0:World}{φ φ':Phi}{w w':World}{sz:Nat}{H H₁ H₂:VH}{c₀:Frame}{cs:List Frame}{x:VX}{a₂:VT}{M₂:RM}{e:Exit}{act':Act}{cs':List Frame}{w'':World}(hs:St φ w φ' w')(hb:H₁.base=H.base)(h:PostS w0 φ' w' sz H₁ c₀ cs x a₂ H₂ M₂ e act' cs' w''):PostS w0 φ w sz H c₀ cs x a₂ H₂ M₂ e act' cs' w'':=by
 obtain⟨ψ,u',h1,h2,h3,h4,h5,h6,h7,h8,h9⟩:=h
 exact⟨ψ,u',h1,h2,h3,hs.trans h4,h5,h6,h7.trans hb,h8,h9⟩
section
variable{P:Program}
theorem b6v[Ext](hng:a4B P){w0:World}{φ:Phi}{w:World}{a:VT}{act:Act}{H:VH}(ht:TR φ a act.tmps)(hs:HSim w0 φ H w){o:Oper}{v:VV}{H₁:VH}(h:a2m P d1m o.op a H=some (v,H₁)):
  ∃v' w₁ φ₁,((execOp act.eval o).run P w= .ok (.value v') w₁∨v'=undef∧(execOp act.eval o).run P w= .ok .skip w₁)∧St φ w φ₁ w₁∧VR φ₁ v v'∧HSim w0 φ₁ H₁ w₁∧H₁.base=H.base:=by
 have read: ∀{u:VV},(evR P o.op a H).get=some u→some (u,H)=some (v,H₁)→ ∃v' w₁ φ₁,((execOp act.eval o).run P w= .ok (.value v') w₁∨v'=undef∧(execOp act.eval o).run P w= .ok .skip w₁)∧St φ w φ₁ w₁∧VR φ₁ v v'∧HSim w0 φ₁ H₁ w₁∧H₁.base=H.base:=by
  intro u hu he
  simp only[Option.some.injEq,Prod.mk.injEq]at he
  obtain⟨rfl,rfl⟩:=he
  obtain⟨v',h1,h2⟩:=a6O hu (a5y ht hs o)
  exact⟨v',w,φ,.inl h1,.refl φ w,h2,hs,rfl⟩
 have write:(match(evE P o.op a H).get with
   |.val v H₁=>some (v,H₁)
   |.enter f args=>d1m.call f args H
   |.round i args=>d1m.round i args H
   |.bad=>none)=some (v,H₁)→ ∃v' w₁ φ₁,((execOp act.eval o).run P w= .ok (.value v') w₁∨v'=undef∧(execOp act.eval o).run P w= .ok .skip w₁)∧St φ w φ₁ w₁∧VR φ₁ v v'∧HSim w0 φ₁ H₁ w₁∧H₁.base=H.base:=by
  intro he
  have hg:=a6P (a6B hng ht hs o)
  cases hq:(evE P o.op a H).get with
  |val u K'=>
   rw[hq]at he hg
   simp only[Option.some.injEq,Prod.mk.injEq]at he
   obtain⟨rfl,rfl⟩:=he
   simp only at hg
   rcases hg with⟨v',w₁,φ₁,h1,h2,h3,h4,h5⟩|⟨rfl,w₁,φ₁,h1,h2,h3,h4⟩
   ·exact⟨v',w₁,φ₁,.inl h1,h2,h3,h4,h5⟩
   ·exact⟨undef,w₁,φ₁,.inr ⟨rfl,h1⟩,h2,a1k φ₁,h3,h4⟩
  |enter f args=>rw[hq]at he;cases he
  |round i args=>rw[hq]at he;cases he
  |bad=>rw[hq]at he;cases he
 unfold a2m at h
 split at h
 ·cases hg:(evR P o.op a H).get with
  |none=>rw[hg]at h;cases h
  |some u=>rw[hg]at h;exact read hg h
 ·cases hg:(evR P o.op a H).get with
  |none=>rw[hg]at h;cases h
  |some u=>rw[hg]at h;exact read hg h
 ·exact write h
theorem b8f{o:Oper}(h:c5K o.op=true)(ρ:Operand→Value)(w:World):(execOp ρ o).run P w= .ok .recover w:=by
 obtain⟨dst,op,type,pos,after,guard⟩:=o
 unfold c5K at h
 simp only at h
 split at h
 ·rfl
 ·cases h
theorem c2Q[Ext](hng:a4B P){w0:World}{nt:Nat}(hb:nt≤top){c₀:Frame}{cs:List Frame}{all:List Oper}: ∀(l pre:List Oper) (a:VT) (H:VH) (M:RM) (a₁:VT) (H₁:VH) (M₁:RM),all=pre++l→c9V P nt l a H M=some (a₁,H₁,M₁)→
  ∀(φ:Phi) (act:Act) (w:World) (u:FrameMode),TR φ a act.tmps→HSim w0 φ H w→nt≤act.tmps.size→act.defers= []→MR φ M u→ ∀(Q:Exit→Act→List Frame→World→Prop),(∀e act' cs' w',PostS w0 φ w act.tmps.size H c₀ cs .normal a₁ H₁ M₁ e act' cs' w'→Q e act' cs' w')→
  wpOpsS P ⟨all⟩ Q (List.range' pre.length l.length) act ({c₀ with mode:=u}::cs) w:=by
 intro l
 induction l with
 |nil=>
  intro pre a H M a₁ H₁ M₁ _ h φ act w u ht hs hn hd hm Q hQ
  simp only[c9V,Option.some.injEq,Prod.mk.injEq]at h
  obtain⟨rfl,rfl,rfl⟩:=h
  exact hQ _ act _ w ⟨φ,u,rfl,rfl,hm,.refl φ w,ht,hs,rfl,rfl,hd⟩
 |cons o l ih=>
  intro pre a H M a₁ H₁ M₁ hall h φ act w u ht hs hn hd hm Q hQ
  have hget:(⟨all⟩:Array Oper)[pre.length]? =some o:=by simp[hall]
  simp only[List.length_cons,List.range'_succ,wpOpsS,hget]
  have hall':all=(pre++ [o])++l:=by simp[hall]
  have hlen:(pre++ [o]).length=pre.length+1:=by simp
  simp only[c9V]at h
  cases hgo:d7j o.guard with
  |false=>rw[hgo]at h;cases h
  |true=>
  rw[hgo]at h
  simp only at h
  have hno:o.guard=none:=by cases hg:o.guard with
   |none=>rfl
   |some x=>rw[hg]at hgo;cases hgo
  rw[if_pos (by simp[Region.wanted,hno])]
  cases hrc:c5K o.op with
  |true=>
   rw[hrc]at h
   simp only at h
   rw[b8f hrc]
   simp only
   cases hp:a4C nt a o.dst (d5M M)with
   |none=>rw[hp]at h;cases h
   |some a'=>
    rw[hp]at h
    simp only at h
    have go: ∀(v':Value) (u':FrameMode),VR φ (d5M M) v'→MR φ (d9z M) u'→wpOpsS P ⟨all⟩ Q (List.range' (pre.length+1) l.length) (act.put o.dst v') ({c₀ with mode:=u'}::cs) w:=by
     intro v' u' hv hm'
     obtain⟨p1,p2,p3⟩:=a0z ht hn hb hv hp
     have:=ih (pre++ [o]) a' H (d9z M) a₁ H₁ M₁ hall' h φ (act.put o.dst v') w u' p1 hs (by omega) (by rw[p3];exact hd) hm' Q (fun e act' cs' w' hp'=>hQ e act' cs' w' (by rw[p2]at hp';exact hp'))
     rwa [hlen]at this
    cases M with
    |none=>
     cases(show u= .returning from hm)
     simp only[recoverD]
     exact go _ _ (by simp[d5M,VR]) hm
    |live v=>
     obtain⟨v',rfl,hv⟩:=hm
     simp only[recoverD,b7i]
     exact go v' _ hv ⟨v',rfl⟩
    |done=>
     obtain⟨v',rfl⟩:=hm
     simp only[recoverD]
     exact go _ _ (by simp[d5M,VR]) ⟨v',rfl⟩
  |false=>
   rw[hrc]at h
   simp only at h
   cases hr:a2m P d1m o.op a H with
   |none=>rw[hr]at h;cases h
   |some vh=>
    obtain⟨v,H'⟩:=vh
    rw[hr]at h
    simp only at h
    cases hp:a4C nt a o.dst v with
    |none=>rw[hp]at h;cases h
    |some a'=>
     rw[hp]at h
     simp only at h
     obtain⟨v',w₁,φ₁,hrun,k1,k2,k3,k4⟩:=b6v hng ht hs hr
     obtain⟨p1,p2,p3⟩:=a0z (ht.mono k1.le) hn hb k2 hp
     have:=ih (pre++ [o]) a' H' M a₁ H₁ M₁ hall' h φ₁ (act.put o.dst v') w₁ u p1 k3 (by omega) (by rw[p3];exact hd) (hm.mono k1.le) Q (fun e act' cs' w' hp'=>hQ e act' cs' w' (by rw[p2]at hp';exact PostS.trans k1 k4 hp'))
     rw[hlen]at this
     rcases hrun with hrun|⟨rfl,hrun⟩
     ·rw[hrun];exact this
     ·rw[hrun];exact this
theorem c7b[Ext](hng:a4B P){rc:CE}(hrc:CEokT P False (fun _=>True) rc){c₀:Frame}{cs:List Frame}: ∀n w0 nt c a H M x a₁ H₁ M₁,rC P rc n nt c a H M=some (x,a₁,H₁,M₁)→nt≤top→ ∀(φ:Phi) (act:Act) (w:World) (u:FrameMode),TR φ a act.tmps→HSim w0 φ H w→nt≤act.tmps.size→act.defers= []→MR φ M u→
  c.wpS P (PostS w0 φ w act.tmps.size H c₀ cs x a₁ H₁ M₁) act ({c₀ with mode:=u}::cs) w:=by
 intro n
 induction n with
 |zero=>intro w0 nt c a H M x a₁ H₁ M₁ h;cases h
 |succ n ih=>
  intro w0 nt c a H M x a₁ H₁ M₁ h hb φ act w u ht hs hn hd hm
  have plain:(match rc nt c a H with|some (x,a,H)=>some (x,a,H,M)|none=>none)=some (x,a₁,H₁,M₁)→c.wpS P (PostS w0 φ w act.tmps.size H c₀ cs x a₁ H₁ M₁) act ({c₀ with mode:=u}::cs) w:=by
   intro h
   cases hy:rc nt c a H with
   |none=>rw[hy]at h;cases h
   |some t=>
    obtain⟨e,a',H'⟩:=t
    rw[hy]at h
    simp only[Option.some.injEq,Prod.mk.injEq]at h
    obtain⟨rfl,rfl,rfl,rfl⟩:=h
    have k:=hrc w0 nt c a H e a' H' hy hb none trivial φ act w ht hs hn (fun _=>False) (fun h=>h.elim) (by rw[hd];exact .nil)
    refine wpS_of_wp (wpIn_wide.1 (wpIn_mono k ?_))
    rintro e' act' w' ⟨φ',rfl,k2,k3,k4,k5,k6,⟨rs,m1,m2,m3⟩⟩
    refine⟨φ',u,rfl,rfl,hm.mono k2.le,k2,k3,k4,k5,k6, ?_⟩
    cases rs with
    |nil=>exact m1
    |cons r rs=>exact(m3 r (by simp)).1.elim
  have h':(match(generalizing:=false) c with
   |.seq x y=>match rC P rc n nt x a H M with
    |some (.normal,a,H,M)=>rC P rc n nt y a H M
    |r=>r
   |.cond c x y=>match a0B a c with
    |some (.bool b)=>match b with
     |true=>rC P rc n nt x a H M
     |false=>rC P rc n nt y a H M
    |_=>none
   |.region id ⟨ops⟩ false=>match c1C ops with
    |true=>match c9V P nt ops a H M with
     |some (a,H,M)=>some (.normal,a,H,M)
     |none=>none
    |false=>match rc nt (.region id ⟨ops⟩ false) a H with
     |some (x,a,H)=>some (x,a,H,M)
     |none=>none
   |c=>match rc nt c a H with
    |some (x,a,H)=>some (x,a,H,M)
    |none=>none)=some (x,a₁,H₁,M₁):=h
  split at h'
  ·rename_i y z
   refine wpS_seq ?_
   cases hy:rC P rc n nt y a H M with
   |none=>rw[hy]at h';cases h'
   |some t=>
    obtain⟨e,a',H',M'⟩:=t
    rw[hy]at h'
    have k:=ih w0 nt y a H M e a' H' M' hy hb φ act w u ht hs hn hd hm
    intro b kk hbk hro
    obtain⟨e',act',cs',w',hp,harr⟩:=k b kk hbk hro
    refine⟨e',act',cs',w', ?_,harr⟩
    have stop:some (e,a',H',M')=some (x,a₁,H₁,M₁)→PostS w0 φ w act.tmps.size H c₀ cs x a₁ H₁ M₁ e' act' cs' w':=by
     intro he
     simp only[Option.some.injEq,Prod.mk.injEq]at he
     obtain⟨rfl,rfl,rfl,rfl⟩:=he
     exact hp
    cases e with
    |normal=>
     simp only at h'
     obtain⟨φ',u',rfl,rfl,k1,k2,k3,k4,k5,k6,k7⟩:=hp
     have k':=ih w0 nt z a' H' M' x a₁ H₁ M₁ h' hb φ' act' w' u' k3 k4 (by omega) k7 k1
     intro b2 kk2 hb2 hr2
     obtain⟨e'',act'',cs'',w'',hp',harr'⟩:=k' b2 kk2 hb2 hr2
     rw[k6]at hp'
     exact⟨e'',act'',cs'',w'',PostS.trans k2 k5 hp',harr'⟩
    |ret=>
     have:=stop h'
     obtain⟨φ',u',rfl,_⟩:=hp
     exact this
    |exit id=>
     have:=stop h'
     obtain⟨φ',u',rfl,_⟩:=hp
     exact this
  ·rename_i c y z
   cases hc:a0B a c with
   |none=>rw[hc]at h';cases h'
   |some v=>cases v with
    |bool b=>
     rw[hc]at h'
     have hv:=a0A ht hc
     simp only[VR]at hv
     refine wpS_cond hv ?_
     cases b with
     |true=>exact ih w0 nt y a H M x a₁ H₁ M₁ h' hb φ act w u ht hs hn hd hm
     |false=>exact ih w0 nt z a H M x a₁ H₁ M₁ h' hb φ act w u ht hs hn hd hm
    |_=>rw[hc]at h';cases h'
  ·rename_i id ops
   cases hh:c1C ops with
   |true=>
    rw[hh]at h'
    simp only at h'
    cases hr:c9V P nt ops a H M with
    |none=>rw[hr]at h';cases h'
    |some t=>
     obtain⟨a',H',M'⟩:=t
     rw[hr]at h'
     simp only[Option.some.injEq,Prod.mk.injEq]at h'
     obtain⟨rfl,rfl,rfl,rfl⟩:=h'
     refine wpS_region ?_
     have e:List.range (⟨ops⟩:Array Oper).size=List.range' ([]:List Oper).length ops.length:=by simp[List.range_eq_range']
     rw[e]
     exact c2Q hng hb ops [] a H M a' H' M' rfl hr φ act w u ht hs hn hd hm _ (fun _ _ _ _ k=>k)
   |false=>
    rw[hh]at h'
    exact plain h'
  ·exact plain h'
theorem c7a[Ext](hng:a4B P){rc:CE}(hrc:CEokT P False (fun _=>True) rc){n:Nat}{w0:World}{g:FuncId}{args:List VV}{H H₁:VH}{M M₁:RM}(h:rF P rc n g args H M=some (H₁,M₁)){φ:Phi}{w:World}{args':List Value}{u:FrameMode}(ha:VRs φ args args')(hs:HSim w0 φ H w)(hm:MR φ M u):
  CallsD P g ⟨args'⟩ u w fun e u' w'=> ∃v' φ',e= .returned v'∧St φ w φ' w'∧HSim w0 φ' H₁ w'∧H₁.base=H.base∧MR φ' M₁ u':=by
 unfold rF at h
 cases hf:P.funcs[g]? with
 |none=>rw[hf]at h;cases h
 |some fn=>
  rw[hf]at h
  simp only at h
  cases hb:fn.body with
  |none=>rw[hb]at h;cases h
  |some c=>
   rw[hb]at h
   simp only at h
   cases h1:Nat.ble args.length fn.ntmps with
   |false=>rw[h1]at h;cases h
   |true=>cases h2:Nat.ble fn.ntmps top with
    |false=>rw[h1,h2]at h;cases h
    |true=>
     rw[h1,h2]at h
     simp only at h
     have h1':args.length≤fn.ntmps:=Nat.le_of_ble_eq_true h1
     have h2':fn.ntmps≤top:=Nat.le_of_ble_eq_true h2
     have hl:=a0M _ _ ha
     cases hr:rC P rc n fn.ntmps c (a3r args 0 .lf) H M with
     |none=>rw[hr]at h;cases h
     |some q=>
      obtain⟨x,a₁,H',M'⟩:=q
      rw[hr]at h
      have hsz:fn.ntmps≤((⟨args'⟩:Array Value)++Array.replicate (fn.ntmps-(⟨args'⟩:Array Value).size) undef).size:=by simp;omega
      refine callsD_of_wpS hf hb fun c₀ cs hu=> ?_
      have hc0:({c₀ with mode:=u}:Frame)=c₀:=by subst hu;rfl
      have k:=c7b hng hrc (c₀:=c₀) (cs:=cs) n w0 fn.ntmps c _ H M x a₁ H' M' hr h2' φ {tmps:=(⟨args'⟩:Array Value)++Array.replicate (fn.ntmps-(⟨args'⟩:Array Value).size) undef,defers:=[]} w u (b9p ha h1' h2') hs hsz rfl hm
      rw[hc0]at k
      intro b kk hbk hro
      obtain⟨e,act',cs',w',hp,harr⟩:=k b kk hbk hro
      refine⟨e,act',cs',w', ?_,harr⟩
      obtain⟨φ',u',rfl,rfl,k1,k2,k3,k4,k5,k6,k7⟩:=hp
      have fin: ∀(_:(match a5r P a₁ H' fn.results.toList with|some _=>some (H',M')|none=>none)=some (H₁,M₁)),act'.defers= []∧ ∃u'',{c₀ with mode:=u'}::cs={c₀ with mode:=u''}::cs∧ ∃v,(results fn act'.tmps).run P w'= .ok v w'∧ ∃v' φ',Ending.returned v= .returned v'∧St φ w φ' w'∧HSim w0 φ' H₁ w'∧H₁.base=H.base∧MR φ' M₁ u'':=by
       intro hx
       cases hq:a5r P a₁ H' fn.results.toList with
       |none=>rw[hq]at hx;cases hx
       |some l=>
        rw[hq]at hx
        simp only[Option.some.injEq,Prod.mk.injEq]at hx
        obtain⟨rfl,rfl⟩:=hx
        obtain⟨v',r1,r2⟩:=a0w (P:=P) k3 k4 hq
        exact⟨k7,u',rfl,v',r1,v',φ',rfl,k2,k4,k5,k1⟩
      cases x with
      |normal=>exact fin h
      |ret=>exact fin h
      |exit id=>cases h
end
end
end Go.Ev
namespace Go.Ev
noncomputable section
open Go.RowKit
abbrev VD:=FuncId×List VV×List VV
def dOf(op:Op)(a:VT):Option VD:=match op with
 |.defer ⟨.value f,xs,_⟩=>match a0B a f,a0c a xs.toList with
  |some (.func (.func g) first cap),some vs=>some (g,first++vs,cap)
  |_,_=>none
 |_=>none
def c9W(P:Program)(nt:Nat):List Oper→VT→VH→Option VD→Option (VT×VH×Option VD)
 | [],a,H,D=>some (a,H,D)
 |o::l,a,H,D=>match d7j o.guard with
  |false=>none
  |true=>match dOf o.op a with
   |some d=>match D with
    |none=>match a4C nt a o.dst a2n with
     |some a₁=>c9W P nt l a₁ H (some d)
     |none=>none
    |some _=>none
   |none=>match a2m P d1m o.op a H with
    |some (v,H₁)=>match a4C nt a o.dst v with
     |some a₁=>c9W P nt l a₁ H₁ D
     |none=>none
    |none=>none
def e0k:Op→Bool|.defer _=>true|_=>false
def c1E:List Oper→Bool
 | []=>false
 |o::l=>match e0k o.op with|true=>true|false=>c1E l
def qC(P:Program)(rc:PCE)(n:Nat):Nat→Code→VT→VH→Option VD→Option (PX×VT×VH×Option VD):=
 Nat.rec (fun _ _ _ _ _=>none) (fun _ ih=>fun nt c a H D=>match c with
  |.seq x y=>match ih nt x a H D with
   |some (.x .normal,a,H,D)=>ih nt y a H D
   |r=>r
  |.region id ⟨ops⟩ false=>match c1E ops with
   |true=>match c9W P nt ops a H D with
    |some (a,H,D)=>some (.x .normal,a,H,D)
    |none=>none
   |false=>match rc nt (.region id ⟨ops⟩ false) a H with
    |some (x,a,H)=>some (x,a,H,D)
    |none=>none
  |c=>match rc nt c a H with
   |some (x,a,H)=>some (x,a,H,D)
   |none=>none) n
def e0Z:PX→Option RM
 |.x .normal|.x .ret=>some .none
 |.x (.exit _)=>none
 |.pan v=>some (.live v)
def d1k:RM→Bool|.live _=>false|_=>true
def c6D(P:Program)(n:Nat)(rc:CE)(pc:PCE):KN:=fun f args H=>match P.funcs[f]? with
 |some fn=>match fn.body with
  |some c=>match Nat.ble args.length fn.ntmps,Nat.ble fn.ntmps top with
   |true,true=>match qC P pc n fn.ntmps c (a3r args 0 .lf) H none with
    |some (x,a,H₁,some (g,xs,cap))=>match e0Z x,P.funcs[g]? with
     |some M,some gn=>match gn.body with
      |some _=>match rF P rc n g (xs++cap) H₁ M with
       |some (H₂,M₂)=>match d1k M₂ with
        |true=>match a5r P a H₂ fn.results.toList with
         |some l=>some (c2V l,H₂)
         |none=>none
        |false=>none
       |none=>none
      |none=>none
     |_,_=>none
    |_=>none
   |_,_=>none
  |none=>none
 |none=>none
def c6C(P:Program)(n:Nat)(cat:List FuncId)(rc:CE)(pc:PCE):KN:=fun f args H=>match a8x f cat with
 |true=>c6D P n rc pc f args H
 |false=>none
def knC(P:Program)(n:Nat)(cat mp:List FuncId)(k:Nat):KN:=
 Nat.rec (fun _ _ _=>none) (fun _ ih=>c6C P n cat (evN P (a0x P) ih n).1.2 (pcN P (evN P (a0x P) ih n).2 (pN P (a0x P (evN P (a0x P) ih n).2) (evN P (a0x P) ih n).2 mp n).2 n)) k
def DR(φ:Phi):Option VD→List Deferred→Prop
 |none,ds=>ds= []
 |some (g,xs,cap),ds=> ∃xs' cap',ds= [{target:=.fn (.func g) ⟨cap'⟩,args:=⟨xs'⟩}]∧VRs φ xs xs'∧VRs φ cap cap'
theorem DR.mono{φ φ':Phi}(h:φ.le φ'): ∀{D:Option VD} {ds:List Deferred},DR φ D ds→DR φ' D ds
 |none,_,k=>k
 |some (_,_,_),_,⟨xs',cap',k1,k2,k3⟩=>⟨xs',cap',k1,k2.mono h,k3.mono h⟩
def PostQ[Ext](w0:World)(φ:Phi)(w:World)(sz:Nat)(H:VH)(x:PX)(a₁:VT)(H₁:VH)(D₁:Option VD)(e:Exit)(act':Act)(w':World):Prop:=
 ∃φ',XR φ' x e∧St φ w φ' w'∧TR φ' a₁ act'.tmps∧HSim w0 φ' H₁ w'∧H₁.base=H.base∧act'.tmps.size=sz∧DR φ' D₁ act'.defers
theorem PostQ.trans[Ext]{w0:World}{φ φ':Phi}{w w':World}{sz:Nat}{H H₁ H₂:VH}{x:PX}{a₂:VT}{D₂:Option VD}{e:Exit}{act':Act}{w'':World}(hs:St φ w φ' w')(hb:H₁.base=H.base)(h:PostQ w0 φ' w' sz H₁ x a₂ H₂ D₂ e act' w''):PostQ w0 φ w sz H x a₂ H₂ D₂ e act' w'':=by
 obtain⟨ψ,h1,h2,h3,h4,h5,h6,h7⟩:=h
 exact⟨ψ,h1,hs.trans h2,h3,h4,h5.trans hb,h6,h7⟩
section
variable{P:Program}
theorem b8g{a:VT}{φ:Phi}{act:Act}(ht:TR φ a act.tmps){o:Oper}{g:FuncId}{xs cap:List VV}(h:dOf o.op a=some (g,xs,cap))(w:World):
  ∃xs' cap',(execOp act.eval o).run P w= .ok (.defer {target:=.fn (.func g) ⟨cap'⟩,args:=⟨xs'⟩}) w∧VRs φ xs xs'∧VRs φ cap cap':=by
 obtain⟨dst,op,type,pos,after,guard⟩:=o
 unfold dOf at h
 simp only at h
 split at h
 ·rename_i f ys ts
  split at h
  ·rename_i g' first cap0 vs hf hv
   simp only[Option.some.injEq,Prod.mk.injEq]at h
   obtain⟨rfl,rfl,rfl⟩:=h
   have h1:=a0A ht hf
   simp only[VR]at h1
   obtain⟨first',cap',_,k1,k2,k3⟩:=h1
   have h2:=a1G ht _ _ hv
   refine⟨first'++ys.toList.map act.eval,cap', ?_, ?_,k2⟩
   ·simp only[execOp,resolve,k3,Deferred.ofValue,Sem.run_bind,Sem.run_pure,Result.andThen_ok]
    congr 3
    apply Array.ext'
    simp
   ·exact a3B k1 h2
  ·cases h
 ·cases h
theorem c2R[Ext](hng:a4B P){w0:World}{nt:Nat}(hb:nt≤top){all:List Oper}: ∀(l pre:List Oper) (a:VT) (H:VH) (D:Option VD) (a₁:VT) (H₁:VH) (D₁:Option VD),all=pre++l→c9W P nt l a H D=some (a₁,H₁,D₁)→
  ∀(φ:Phi) (act:Act) (w:World),TR φ a act.tmps→HSim w0 φ H w→nt≤act.tmps.size→DR φ D act.defers→ ∀(Q:Exit→Act→World→Prop),(∀e act' w',PostQ w0 φ w act.tmps.size H (.x .normal) a₁ H₁ D₁ e act' w'→Q e act' w')→
  wpOpsIn (Fr none) 0 P ⟨all⟩ Q (List.range' pre.length l.length) act w:=by
 intro l
 induction l with
 |nil=>
  intro pre a H D a₁ H₁ D₁ _ h φ act w ht hs hn hd Q hQ
  simp only[c9W,Option.some.injEq,Prod.mk.injEq]at h
  obtain⟨rfl,rfl,rfl⟩:=h
  exact hQ _ act w ⟨φ,rfl,.refl φ w,ht,hs,rfl,rfl,hd⟩
 |cons o l ih=>
  intro pre a H D a₁ H₁ D₁ hall h φ act w ht hs hn hd Q hQ
  have hget:(⟨all⟩:Array Oper)[pre.length]? =some o:=by simp[hall]
  simp only[List.length_cons,List.range'_succ,wpOpsIn,hget]
  have hall':all=(pre++ [o])++l:=by simp[hall]
  have hlen:(pre++ [o]).length=pre.length+1:=by simp
  simp only[c9W]at h
  cases hgo:d7j o.guard with
  |false=>rw[hgo]at h;cases h
  |true=>
  rw[hgo]at h
  simp only at h
  have hno:o.guard=none:=by cases hg:o.guard with
   |none=>rfl
   |some x=>rw[hg]at hgo;cases hgo
  rw[if_pos (by simp[Region.wanted,hno])]
  cases hdf:dOf o.op a with
  |some d=>
   obtain⟨g,xs,cap⟩:=d
   rw[hdf]at h
   simp only at h
   cases D with
   |some _=>cases h
   |none=>
    simp only at h
    cases hp:a4C nt a o.dst a2n with
    |none=>rw[hp]at h;cases h
    |some a'=>
     rw[hp]at h
     simp only at h
     obtain⟨xs',cap',hrun,k1,k2⟩:=b8g (P:=P) ht hdf w
     refine⟨fun _ _=>trivial, ?_⟩
     rw[show(Fr none).round=none from rfl,Oper.semAt_none,hrun]
     simp only[Oper.uponIn]
     have hd0:act.defers= []:=hd
     obtain⟨p1,p2,p3⟩:=a0z (act:={act with defers:={target:=.fn (.func g) ⟨cap'⟩,args:=⟨xs'⟩}::act.defers}) ht hn hb (a1k φ) hp
     have:=ih (pre++ [o]) a' H (some (g,xs,cap)) a₁ H₁ D₁ hall' h φ (Act.put {act with defers:={target:=.fn (.func g) ⟨cap'⟩,args:=⟨xs'⟩}::act.defers} o.dst undef) w p1 hs (by rw[p2];exact hn) (by rw[p3,hd0];exact⟨xs',cap',rfl,k1,k2⟩) Q (fun e act' w' hp'=>hQ e act' w' (by rw[p2]at hp';exact hp'))
     rwa [hlen]at this
  |none=>
   rw[hdf]at h
   simp only at h
   cases hr:a2m P d1m o.op a H with
   |none=>rw[hr]at h;cases h
   |some vh=>
    obtain⟨v,H'⟩:=vh
    rw[hr]at h
    simp only at h
    cases hp:a4C nt a o.dst v with
    |none=>rw[hp]at h;cases h
    |some a'=>
     rw[hp]at h
     simp only at h
     obtain⟨v',w₁,φ₁,hrun,k1,k2,k3,k4⟩:=b6v hng ht hs hr
     obtain⟨p1,p2,p3⟩:=a0z (ht.mono k1.le) hn hb k2 hp
     have:=ih (pre++ [o]) a' H' D a₁ H₁ D₁ hall' h φ₁ (act.put o.dst v') w₁ p1 k3 (by omega) (by rw[p3];exact hd.mono k1.le) Q (fun e act' w' hp'=>hQ e act' w' (by rw[p2]at hp';exact PostQ.trans k1 k4 hp'))
     rw[hlen]at this
     refine⟨fun _ _=>trivial, ?_⟩
     rw[show(Fr none).round=none from rfl,Oper.semAt_none]
     rcases hrun with hrun|⟨rfl,hrun⟩
     ·rw[hrun];exact this
     ·rw[hrun];exact this
theorem c7d[Ext](hng:a4B P){rc:PCE}(hrc:d0F P (fun _=>True) rc): ∀n w0 nt c a H D x a₁ H₁ D₁,qC P rc n nt c a H D=some (x,a₁,H₁,D₁)→nt≤top→ ∀(φ:Phi) (act:Act) (w:World),TR φ a act.tmps→HSim w0 φ H w→nt≤act.tmps.size→DR φ D act.defers→
  c.wpIn (Fr none) 0 P (PostQ w0 φ w act.tmps.size H x a₁ H₁ D₁) act w:=by
 intro n
 induction n with
 |zero=>intro w0 nt c a H D x a₁ H₁ D₁ h;cases h
 |succ n ih=>
  intro w0 nt c a H D x a₁ H₁ D₁ h hb φ act w ht hs hn hd
  have plain:(match rc nt c a H with|some (x,a,H)=>some (x,a,H,D)|none=>none)=some (x,a₁,H₁,D₁)→c.wpIn (Fr none) 0 P (PostQ w0 φ w act.tmps.size H x a₁ H₁ D₁) act w:=by
   intro h
   cases hy:rc nt c a H with
   |none=>rw[hy]at h;cases h
   |some t=>
    obtain⟨e,a',H'⟩:=t
    rw[hy]at h
    simp only[Option.some.injEq,Prod.mk.injEq]at h
    obtain⟨rfl,rfl,rfl,rfl⟩:=h
    refine wpIn_mono (hrc w0 nt c a H e a' H' hy hb φ act w ht hs hn trivial) ?_
    rintro e' act' w' ⟨φ',k1,k2,k3,k4,k5,k6,k7⟩
    exact⟨φ',k1,k2,k3,k4,k5,k6,by rw[k7];exact hd.mono k2.le⟩
  have h':(match(generalizing:=false) c with
   |.seq x y=>match qC P rc n nt x a H D with
    |some (.x .normal,a,H,D)=>qC P rc n nt y a H D
    |r=>r
   |.region id ⟨ops⟩ false=>match c1E ops with
    |true=>match c9W P nt ops a H D with
     |some (a,H,D)=>some (.x .normal,a,H,D)
     |none=>none
    |false=>match rc nt (.region id ⟨ops⟩ false) a H with
     |some (x,a,H)=>some (x,a,H,D)
     |none=>none
   |c=>match rc nt c a H with
    |some (x,a,H)=>some (x,a,H,D)
    |none=>none)=some (x,a₁,H₁,D₁):=h
  split at h'
  ·rename_i y z
   refine wpIn_seq ?_
   cases hy:qC P rc n nt y a H D with
   |none=>rw[hy]at h';cases h'
   |some t=>
    obtain⟨e,a',H',D'⟩:=t
    rw[hy]at h'
    refine wpIn_mono (ih w0 nt y a H D e a' H' D' hy hb φ act w ht hs hn hd) ?_
    intro e' act' w' hp
    have stop:some (e,a',H',D')=some (x,a₁,H₁,D₁)→PostQ w0 φ w act.tmps.size H x a₁ H₁ D₁ e' act' w':=by
     intro he
     simp only[Option.some.injEq,Prod.mk.injEq]at he
     obtain⟨rfl,rfl,rfl,rfl⟩:=he
     exact hp
    cases e with
    |pan v=>
     have:=stop h'
     obtain⟨φ',⟨v',rfl,_⟩,_⟩:=hp
     exact this
    |x y=>
     cases y with
     |normal=>
      simp only at h'
      obtain⟨φ',rfl,k2,k3,k4,k5,k6,k7⟩:=hp
      refine wpIn_mono (ih w0 nt z a' H' D' x a₁ H₁ D₁ h' hb φ' act' w' k3 k4 (by omega) k7) ?_
      intro e'' act'' w'' hp'
      rw[k6]at hp'
      exact PostQ.trans k2 k5 hp'
     |ret=>
      have:=stop h'
      obtain⟨φ',rfl,_⟩:=hp
      exact this
     |exit id=>
      have:=stop h'
      obtain⟨φ',rfl,_⟩:=hp
      exact this
  ·rename_i id ops
   cases hh:c1E ops with
   |true=>
    rw[hh]at h'
    simp only at h'
    cases hr:c9W P nt ops a H D with
    |none=>rw[hr]at h';cases h'
    |some t=>
     obtain⟨a',H',D'⟩:=t
     rw[hr]at h'
     simp only[Option.some.injEq,Prod.mk.injEq]at h'
     obtain⟨rfl,rfl,rfl,rfl⟩:=h'
     refine wpIn_region ?_
     have e:List.range (⟨ops⟩:Array Oper).size=List.range' ([]:List Oper).length ops.length:=by simp[List.range_eq_range']
     rw[e]
     exact c2R hng hb ops [] a H D a' H' D' rfl hr φ act w ht hs hn hd _ (fun _ _ _ k=>k)
   |false=>
    rw[hh]at h'
    exact plain h'
  ·exact plain h'
theorem b7n[Ext](hng:a4B P){n:Nat}{rc:CE}(hrc:CEokT P False (fun _=>True) rc){pc:PCE}(hpc:d0F P (fun _=>True) pc):b9v P (c6D P n rc pc):=by
 intro w0 f args H v H' h φ w args' ha hs
 unfold c6D at h
 cases hf:P.funcs[f]? with
 |none=>rw[hf]at h;cases h
 |some fn=>
  rw[hf]at h
  simp only at h
  cases hb:fn.body with
  |none=>rw[hb]at h;cases h
  |some c=>
   rw[hb]at h
   simp only at h
   cases h1:Nat.ble args.length fn.ntmps with
   |false=>rw[h1]at h;cases h
   |true=>cases h2:Nat.ble fn.ntmps top with
    |false=>rw[h1,h2]at h;cases h
    |true=>
     rw[h1,h2]at h
     simp only at h
     have h1':args.length≤fn.ntmps:=Nat.le_of_ble_eq_true h1
     have h2':fn.ntmps≤top:=Nat.le_of_ble_eq_true h2
     have hl:=a0M _ _ ha
     split at h
     ·rename_i x a₁ H₁ g xs cap hr
      split at h
      ·rename_i M gn hM hg
       split at h
       ·rename_i cg hbg
        split at h
        ·rename_i H₂ M₂ hrf
         split at h
         ·rename_i hnl
          split at h
          ·rename_i l hq
           simp only[Option.some.injEq,Prod.mk.injEq]at h
           obtain⟨rfl,rfl⟩:=h
           have hsz:fn.ntmps≤((⟨args'⟩:Array Value)++Array.replicate (fn.ntmps-(⟨args'⟩:Array Value).size) undef).size:=by simp;omega
           have k:=c7d hng hpc n w0 fn.ntmps c _ H none x a₁ H₁ _ hr h2' φ {tmps:=(⟨args'⟩:Array Value)++Array.replicate (fn.ntmps-(⟨args'⟩:Array Value).size) undef,defers:=[]} w (b9p ha h1' h2') hs hsz rfl
           refine calls_of_wp_defers hf hb (wpIn_wide.1 (wpIn_mono k ?_))
           intro e act' w' hp
           obtain⟨φ',hx,k2,k3,k4,k5,k6,⟨xs',cap',k7,k8,k9⟩⟩:=hp
           have leave: ∀u,u≠ .run→MR φ' M u→Leaves P fn act'.tmps (fun e w'=> ∃u u' φ'' H'',e=Ending.returned u'∧St φ w φ'' w'∧VR φ'' u u'∧HSim w0 φ'' H'' w'∧H''.base=H.base∧(u=c2V l∧H''=H₂)) act'.defers u w':=by
            intro u hu hm
            rw[k7]
            have hinv:(invoke (.fn (.func g) ⟨cap'⟩) ⟨xs'⟩).run P w'= .ok (.enter g ⟨xs'++cap'⟩) w':=by
             have hn:=hng g gn hg
             simp only[invoke,callFunc,Sem.run_bind,run_program,Result.andThen_ok,hg,hn,hbg]
             simp
            refine leaves_cons hu hinv ((c7a hng hrc hrf (a3B k8 k9) k4 hm).mono ?_)
            rintro e u' w'' ⟨v',φ'',rfl,j1,j2,j3,j4⟩
            simp only
            have hset:settle u'= .returning:=by
             cases M₂ with
             |none=>cases(show u'= .returning from j4);rfl
             |live v=>cases hnl
             |done=>obtain⟨v',rfl⟩:=j4;rfl
            rw[hset]
            obtain⟨r',r1,r2⟩:=a0w (P:=P) (k3.mono j1.le) j2 hq
            exact⟨r',r1,c2V l,r',φ'',H₂,rfl,k2.trans j1,r2,j2,j3.trans k5,rfl,rfl⟩
           cases x with
           |pan u=>
            cases hM
            obtain⟨v',rfl,hv⟩:=hx
            exact leave _ (by simp) ⟨v',rfl,hv⟩
           |x y=>
            cases y with
            |normal=>cases hM;cases hx;exact leave _ (by simp) rfl
            |ret=>cases hM;cases hx;exact leave _ (by simp) rfl
            |exit id=>cases hM
          ·cases h
         ·cases h
        ·cases h
       ·cases h
      ·cases h
     ·cases h
theorem c5F[Ext](hng:a4B P)(hm:P.follows .mixedOrders=true){n:Nat}{cat mp:List FuncId}: ∀k,b9v P (knC P n cat mp k):=by
 intro k
 induction k with
 |zero=>intro w0 f args H v H' h;cases h
 |succ k ih=>
  intro w0 f args H v H' h
  have h':c6C P n cat (evN P (a0x P) (knC P n cat mp k) n).1.2 (pcN P (evN P (a0x P) (knC P n cat mp k) n).2 (pN P (a0x P (evN P (a0x P) (knC P n cat mp k) n).2) (evN P (a0x P) (knC P n cat mp k) n).2 mp n).2 n) f args H=some (v,H'):=h
  unfold c6C at h'
  have hdr:=fun fe (hfe:FEok P fe)=>a2E hng hm hfe
  have hev:=a4m hng hdr ih n
  split at h'
  ·exact b7n hng hev.2.1.2 (c4Y hng hev.2.2 (c7q hng (hdr _ hev.2.2) hev.2.2 n).2 n).2 w0 f args H v H' h'
  ·cases h'
end
def d9g(P:Program)(cat mp:List FuncId)(k n:Nat)(f:FuncId):Bool:=match(evN P (a0x P) (knC P n cat mp k) n).2.call f [] ⟨Env.none,.lf,0⟩with
 |some (.bool b,_)=>b
 |_=>false
theorem c2N{P:Program}(hng:a4B P)(hm:P.follows .mixedOrders=true){cat mp:List FuncId}{k n:Nat}{f:FuncId}(h:d9g P cat mp k n f=true)(w:World):
  Calls P f #[] w fun e w'=>e= .returned (.bool true)∧Below w.heap.size w w':=by
 unfold d9g at h
 cases hr:(evN P (a0x P) (knC P n cat mp k) n).2.call f [] ⟨Env.none,.lf,0⟩with
 |none=>rw[hr]at h;cases h
 |some vh=>
  obtain⟨v,H'⟩:=vh
  rw[hr]at h
  have hc:=(d5x hng hm (c5F hng hm k) n).call w f [] ⟨Env.none,.lf,0⟩ v H' hr e2Q w [] (by simp[VRs]) (HSim.start w)
  refine hc.mono ?_
  rintro e w' ⟨u,v',φ',H'',rfl,k1,k2,k3,_,rfl,rfl⟩
  cases u with
  |bool b=>
   have hb:b=true:=h
   subst hb
   simp only[VR]at k2
   subst k2
   exact⟨rfl,c8f k1 k3⟩
  |_=>cases h
end
end Go.Ev
