/- Engine, part X: states of which less and less is said: loops over what the symbols stand for, one after the other. -/
import Derived.Test.YtmmmknhdigapkaaEvW
namespace Go.Ev
noncomputable section
open Go.RowKit
def RS[Ext](w0:World)(R:Rho→Prop)(sz:Nat)(a:VT)(H:VH)(act:Act)(w:World):Prop:=
 ∃φ:Phi,R φ.ρ∧TR φ a act.tmps∧HSim w0 φ H w∧WK w0 w∧act.tmps.size=sz∧MarksOK (fun r=>w0.heap.size≤r) w0 φ H w act.defers
theorem RS.cs[Ext]{P:Program}{w0:World}{R:Rho→Prop}{sz nt:Nat}{c:Code}{a a₁:VT}{H H₁:VH}{x:VX}(h:CS P nt c a H x a₁ H₁)(hnt:nt≤top)(hsz:nt≤sz){act:Act}{w:World}(k:RS w0 R sz a H act w):
  c.wpIn (Fr none) 0 P (fun e act' w'=>e=x.real∧H₁.base=H.base∧RS w0 R sz a₁ H₁ act' w') act w:=by
 obtain⟨φ,k1,k2,k3,k4,k5,k6⟩:=k;refine wpIn_mono (h hnt w0 φ act w k2 k3 (by omega) (fun r=>w0.heap.size≤r) (fun _ r hr=>Nat.le_trans k4.size hr) k6) ?_;rintro e act' w' ⟨φ',h1,h2,h3,h4,h5,h6,h7⟩;exact⟨h1,h5,φ',by rw[h2.le.2];exact k1,h3,h4,k4.trans h2.wk,h6.trans k5,h7⟩
theorem RS.mono[Ext]{w0:World}{R R':Rho→Prop}{sz:Nat}{a:VT}{H:VH}{act:Act}{w:World}(k:RS w0 R sz a H act w)(h: ∀ρ,R ρ→R' ρ):RS w0 R' sz a H act w:=
 let ⟨φ,k1,k2⟩:=k
 ⟨φ,h _ k1,k2⟩
theorem RS.env[Ext]{w0:World}{R:Rho→Prop}{sz:Nat}{a:VT}{E E':Env}{l:TT VO}{n:Nat}{act:Act}{w:World}(k:RS w0 R sz a ⟨E,l,n⟩ act w)(hb:E'.blk=E.blk)(hE: ∀φ:Phi,R φ.ρ→EnvOK E φ w0→EnvOK E' φ w0):RS w0 R sz a ⟨E',l,n⟩ act w:=by
 obtain⟨φ,k1,k2,k3,k4,k5,rs,m1,m2,m3⟩:=k;refine⟨φ,k1,k2,⟨hE φ k1 k3.env, ?_,k3.old,k3.own,k3.small, ?_,k3.inj,k3.fresh,k3.bound⟩,k4,k5,rs,m1,m2, ?_⟩
 ·intro r b h;exact k3.base r b (by rw[←hb];exact h)
 ·intro i o h;obtain⟨inf,o',h1,h2,h3,h4⟩:=k3.live i o h;exact⟨inf,o',h1,h2,h3,by show E'.blk inf.blk=none;rw[hb];exact h4⟩
 ·intro r hr;obtain⟨q1,q2,q3,q4,q5⟩:=m3 r hr;exact⟨q1,q2,q3,q4,by show E'.blk r=none;rw[hb];exact q5⟩
def b5G(N n:Nat):VB→Bool
 |.base _=>true|.sym i=>Nat.blt i N|.loc i=>Nat.blt i n
mutual
def a6j(N n:Nat):VV→Bool
 |.ptr (some a)=>b5G N n a.b|.slice (some a) _ _=>b5G N n a.b|.sint _ i=>Nat.blt i N|.sym i=>Nat.blt i N|.map (some b)=>b5G N n b
 |.func _ f c=>match lowVs N n f with
  |true=>lowVs N n c|false=>false
 |.yield i=>Nat.blt i n|.iface _ v=>a6j N n v|.agg cs=>lowVs N n cs|.tuple cs=>lowVs N n cs|.lsl _ _ _=>false|.cat _=>false|.tsl _ _=>false|.tlen _=>false|_=>true
def lowVs(N n:Nat):List VV→Bool
 | []=>true
 |v::l=>match a6j N n v with
  |true=>lowVs N n l|false=>false
end
def agree(N:Nat)(ρ ρ':Rho):Prop:= ∀i,i<N→ρ'.int i=ρ.int i∧ρ'.val i=ρ.val i∧ρ'.blk i=ρ.blk i∧ρ'.off i=ρ.off i∧ρ'.lst i=ρ.lst i
def Phi.low(φ:Phi)(n:Nat)(ρ':Rho):Phi:=⟨fun i=>if i<n then φ i else none,ρ'⟩
theorem Phi.low_at{φ:Phi}{n:Nat}{ρ':Rho}{i:Nat}(h:i<n):(φ.low n ρ') i=φ i:=if_pos h
theorem d1y{φ:Phi}{N n:Nat}{ρ':Rho}(ha:agree N φ.ρ ρ'){a:VA}(h:b5G N n a.b=true){a':Addr}{s:Nat}(k:AR φ a a' s):AR (φ.low n ρ') a a' s:=by
 unfold AR at*;cases hb:a.b with
 |base r=>rw[hb]at k;exact k
 |sym i=>rw[hb]at k h;simp only[b5G]at h;obtain⟨_,_,h3,h4,_⟩:=ha i (a0G h);simp only at k ⊢;show a'=⟨ρ'.blk i,ρ'.off i+a.o,none⟩∧s=0;rw[h3,h4];exact k
 |loc i=>rw[hb]at k h;simp only[b5G]at h;obtain⟨inf,h1,h2⟩:=k;exact⟨inf,by rw[Phi.low_at (a0G h)];exact h1,h2⟩
theorem d8u{φ:Phi}{N n:Nat}{ρ':Rho}(ha:agree N φ.ρ ρ'){b:VB}(h:b5G N n b=true){r:Nat}(k:BR φ b r):BR (φ.low n ρ') b r:=by
 unfold BR at*;cases b with
 |base r=>exact k
 |sym i=>simp only[b5G]at h;obtain⟨_,_,h3,_,_⟩:=ha i (a0G h);simp only at k ⊢;show r=ρ'.blk i;rw[h3];exact k
 |loc i=>simp only[b5G]at h;obtain⟨inf,h1,h2⟩:=k;exact⟨inf,by rw[Phi.low_at (a0G h)];exact h1,h2⟩
mutual
theorem b0u{φ:Phi}{N n:Nat}{ρ':Rho}(ha:agree N φ.ρ ρ'): ∀(x:VV) (v:Value),a6j N n x=true→VR φ x v→VR (φ.low n ρ') x v
 |.bool _,_,_,k=>by simpa only[VR]using k
 |.int _ _,_,_,k=>by simpa only[VR]using k
 |.string _,_,_,k=>by simpa only[VR]using k
 |.ptr none,_,_,k=>by simpa only[VR]using k
 |.ptr (some a),v,h,k=>by simp only[VR]at k ⊢;simp only[a6j]at h;obtain⟨a',s,h1,h2⟩:=k;exact⟨a',s,d1y ha h h1,h2⟩
 |.slice none _ _,_,_,k=>by simpa only[VR]using k
 |.slice (some a) _ _,v,h,k=>by simp only[VR]at k ⊢;simp only[a6j]at h;obtain⟨a',s,h1,h2⟩:=k;exact⟨a',s,d1y ha h h1,h2⟩
 |.sliceE,_,_,k=>by simpa only[VR]using k
 |.odd _,_,_,k=>by simpa only[VR]using k
 |.any,_,_,_=>by simp only[VR]
 |.one,_,_,k=>by simpa only[VR]using k
 |.lsl _ _ _,_,h,_=>by simp[a6j]at h
 |.cat _,_,h,_=>by simp[a6j]at h
 |.tsl _ _,_,h,_=>by simp[a6j]at h
 |.tlen _,_,h,_=>by simp[a6j]at h
 |.sint kk i,_,h,k=>by simp only[VR]at k ⊢;simp only[a6j]at h;show _=Value.int kk (ρ'.int i);rw[(ha i (a0G h)).1];exact k
 |.sym i,_,h,k=>by simp only[VR]at k ⊢;simp only[a6j]at h;show _=ρ'.val i;rw[(ha i (a0G h)).2.1];exact k
 |.map none,_,_,k=>by simpa only[VR]using k
 |.map (some b),v,h,k=>by simp only[VR]at k ⊢;simp only[a6j]at h;obtain⟨r,h1,h2⟩:=k;exact⟨r,d8u ha h h1,h2⟩
 |.func fn f c,v,h,k=>by
  simp only[VR]at k ⊢;simp only[a6j]at h;split at h
  ·rename_i hf;obtain⟨f',c',h0,h1,h2,h3⟩:=k;exact⟨f',c',h0,VRs_low ha f f' hf h1,VRs_low ha c c' h h2,h3⟩
  ·cases h
 |.yield i,v,h,k=>by simp only[VR]at k ⊢;simp only[a6j]at h;obtain⟨inf,h1,h2⟩:=k;exact⟨inf,by rw[Phi.low_at (a0G h)];exact h1,h2⟩
 |.nilFunc,_,_,k=>by simpa only[VR]using k
 |.iface t x,v,h,k=>by simp only[VR]at k ⊢;simp only[a6j]at h;obtain⟨x',h1,h2⟩:=k;exact⟨x',b0u ha x x' h h1,h2⟩
 |.nilIface,_,_,k=>by simpa only[VR]using k
 |.agg cs,v,h,k=>by simp only[VR]at k ⊢;simp only[a6j]at h;obtain⟨cs',h1,h2⟩:=k;exact⟨cs',VRs_low ha cs cs' h h1,h2⟩
 |.tuple cs,v,h,k=>by simp only[VR]at k ⊢;simp only[a6j]at h;obtain⟨cs',h1,h2⟩:=k;exact⟨cs',VRs_low ha cs cs' h h1,h2⟩
theorem VRs_low{φ:Phi}{N n:Nat}{ρ':Rho}(ha:agree N φ.ρ ρ'): ∀(xs:List VV) (vs:List Value),lowVs N n xs=true→VRs φ xs vs→VRs (φ.low n ρ') xs vs
 | [],_,_,k=>by simpa only[VRs]using k
 |x::xs,vs,h,k=>by
  simp only[VRs]at k ⊢;simp only[lowVs]at h;split at h
  ·rename_i hx;obtain⟨y,ys,h1,h2,h3⟩:=k;exact⟨y,ys,h1,b0u ha x y hx h2,VRs_low ha xs ys h h3⟩
  ·cases h
end
theorem c8H{φ:Phi}{N n:Nat}: ∀{l:List VV},lowVs N n l=true→ ∀x∈l,a6j N n x=true
 | [],_,x,h=>by cases h
 |y::l,k,x,h=>by
  simp only[lowVs]at k;split at k
  ·rename_i hy;rcases List.mem_cons.1 h with rfl|h
   ·exact hy
   ·exact c8H (φ:=φ) k x h
  ·cases k
def c9l(N n:Nat):List (VV×VV×Nat)→Bool
 | []=>true
 |(k,v,_)::l=>match a6j N n k,a6j N n v with
  |true,true=>c9l N n l|_,_=>false
def d7D(N n:Nat):VO→Bool
 |.cells c _ _ _=>lowVs N n c|.map es _=>c9l N n es|.siter _ _=>true|_=>false
theorem c8Q{φ:Phi}{N n:Nat}{ρ':Rho}(ha:agree N φ.ρ ρ'): ∀(xs:List (VV×VV×Nat)) (es:List MapEntry),c9l N n xs=true→ERs φ xs es→ERs (φ.low n ρ') xs es
 | [],_,_,k=>by simpa only[ERs]using k
 |(kx,vx,b)::xs,es,h,k=>by
  simp only[ERs]at k ⊢;simp only[c9l]at h;split at h
  ·rename_i h1 h2;obtain⟨y,ys,e,q1,q2,q3,q4⟩:=k;exact⟨y,ys,e,b0u ha _ _ h1 q1,b0u ha _ _ h2 q2,q3,c8Q ha xs ys h q4⟩
  ·cases h
theorem d8i{φ:Phi}{N n:Nat}{ρ':Rho}(ha:agree N φ.ρ ρ'){inf:Inf}{o:VO}{o':Obj}(h:d7D N n o=true)(k:OR φ inf o o'):OR (φ.low n ρ') inf o o':=by
 cases o with
 |cells c g ro et=>simp only[d7D]at h;obtain⟨c',e,fr,rfl,hc⟩:=k;refine⟨c',e,fr,rfl,hc.size,hc.fixed,fun j x hj=> ?_,hc.low,hc.typ⟩;obtain⟨y,h1,h2⟩:=hc.cell j x hj;exact⟨y,h1,b0u ha _ _ (c8H (φ:=φ) h x (List.mem_of_getElem? hj)) h2⟩
 |map es c=>obtain⟨es',h1,h2⟩:=k;exact⟨es',h1,c8Q ha _ _ h h2⟩
 |siter s p=>exact k
 |_=>simp[d7D]at h
def TT.klt{α:Type}:TT α→Nat→Bool
 |.lf,_=>true
 |.nd l v r,n=>match(match v with|some _=>Nat.blt 0 n|none=>true),TT.klt l (n/2)with
  |true,true=>TT.klt r ((n-1)/2)|_,_=>false
theorem TT.klt_get{α:Type}: ∀{t:TT α} {n:Nat},TT.klt t n=true→ ∀{i:Nat} {x:α},t.get i=some x→i<n
 |.lf,n,_,i,x,h=>by cases h
 |.nd l v r,n,h,i,x,hx=>by
  simp only[TT.klt]at h;split at h
  ·rename_i h1 h2;rw[TT.get_nd]at hx;split at hx
   ·rename_i h0;have:i=0:=Nat.eq_of_beq_eq_true h0;subst this hx;exact a0G h1
   ·rename_i h0;have hi0:i≠0:=by intro e;subst e;simp at h0
    split at hx
    ·rename_i hm;have:=TT.klt_get h2 hx;have:i%2=1:=Nat.eq_of_beq_eq_true hm;omega
    ·rename_i hm;have:=TT.klt_get h hx;have:i%2≠1:=by intro e;rw[e]at hm;simp at hm
     omega
  ·cases h
def d6n(N n:Nat):Option VV→Option VV→Bool
 |some x,some y=>match y with
  |.any=>true
  |y=>match a1E x y with
   |true=>a6j N n y|false=>false
 |none,some y=>match y with
  |.any=>true|_=>false
 |none,none=>true|some _,none=>false
def c9W(N n:Nat):Option VO→Option VO→Bool
 |_,none=>true
 |some o,some o'=>match d0p o o' with
  |true=>d7D N n o'|false=>false
 |none,some _=>false
def swB(N n:Nat)(a:VT)(H:VH)(a':VT)(l':TT VO):Bool:=match Nat.ble n H.next,TT.all2 (d6n N n) a a',TT.all2 (c9W N n) H.locs l' with
 |true,true,true=>TT.klt l' n|_,_,_=>false
def c5n:List (Nat×VV)→VT→VT
 | [],a=>a|(t,x)::l,a=>c5n l (a.put t x)
theorem TR.put{φ:Phi}{a:VT}{tmps:Array Value}(h:TR φ a tmps){t:Nat}{x:VV}(ht:t<top)(hx:VR φ x (tmps.getD t undef)):TR φ (a.put t x) tmps:=by
 intro u
 by_cases e:u=t
 ·subst e;unfold a1I;rw[TT.get_put_same _ _ _ ht];exact hx
 ·have:=h u;unfold a1I at this ⊢;rw[TT.get_put_other _ _ _ _ e];exact this
theorem TR.special{φ:Phi}{tmps:Array Value}: ∀{l:List (Nat×VV)} {a:VT},TR φ a tmps→(∀p∈l,p.1<top∧VR φ p.2 (tmps.getD p.1 undef))→TR φ (c5n l a) tmps
 | [],a,h,_=>h
 |(t,x)::l,a,h,k=>by have:=k (t,x) (by simp);show TR φ (c5n l (a.put t x)) tmps;exact TR.special (h.put this.1 this.2) fun p hp=>k p (by simp[hp])
theorem RS.swap[Ext]{w0:World}{R R':Rho→Prop}{sz N n:Nat}{a₁ a0:VT}{H₁:VH}{l':TT VO}{sp:List (Nat×VV)}{E':Env}{act:Act}{w:World}(k:RS w0 R sz a₁ H₁ act w)(hs:swB N n a₁ H₁ a0 l'=true)(hb:E'.blk=H₁.base.blk)
  (hρ: ∀φ:Phi,R φ.ρ→TR φ a₁ act.tmps→EnvOK H₁.base φ w0→ ∃ρ',R' ρ'∧agree N φ.ρ ρ'∧EnvOK E' (φ.low n ρ') w0∧ ∀p∈sp,p.1<top∧VR (φ.low n ρ') p.2 (act.tmps.getD p.1 undef)):
  RS w0 R' sz (c5n sp a0) ⟨E',l',n⟩ act w:=by
 obtain⟨φ,k1,k2,k3,k4,k5,rs,m1,m2,m3⟩:=k;obtain⟨ρ',r1,r2,r3,r4⟩:=hρ φ k1 k2 k3.env;unfold swB at hs;split at hs
 ·rename_i s1 s2 s3;have hn:n≤H₁.next:=Nat.le_of_ble_eq_true s1
  have some_of: ∀i inf,(φ.low n ρ') i=some inf→φ i=some inf:=fun i inf h=>by
   have h':(if i<n then φ i else none)=some inf:=h;split at h'
   ·exact h'
   ·cases h'
  have hl: ∀i o,l'.get i=some o→i<n∧H₁.locs.get i=some o∧d7D N n o=true:=by
   intro i o hi;refine⟨TT.klt_get hs hi, ?_⟩;have:=TT.all2_get (p:=c9W N n) rfl s3 i;rw[hi]at this;cases hx:H₁.locs.get i with
   |none=>rw[hx]at this;simp[c9W]at this
   |some o'=>
    rw[hx]at this;simp only[c9W]at this;split at this
    ·rename_i hv;rw[a8z hv];exact⟨rfl,this⟩
    ·cases this
  refine⟨φ.low n ρ',r1,TR.special ?_ r4,⟨r3, ?_,k3.old,fun i inf hi=>k3.own i inf (some_of i inf hi),Nat.le_trans hn k3.small, ?_, ?_, ?_,fun i inf hi=>k3.bound i inf (some_of i inf hi)⟩,k4,k5,rs,m1,m2, ?_⟩
  ·intro t;have:=TT.all2_get (p:=d6n N n) rfl s2 t;have kt:=k2 t;unfold a1I at kt ⊢;revert this kt;generalize a₁.get t=x;generalize a0.get t=y;intro this kt;cases x with
   |none=>cases y with
    |none=>exact b0u r2 a3P _ rfl kt
    |some y=>cases y<;>first|(simp only[VR];done)|(simp[d6n]at this)
   |some x=>cases y with
    |none=>simp[d6n]at this
    |some y=>
     simp only
     have hy:y= .any∨(a1E x y=true∧a6j N n y=true):=by
      cases y<;>first
       |exact .inl rfl
       |(simp only[d6n]at this;split at this
         ·rename_i hv;exact .inr ⟨hv,this⟩
         ·cases this)
     rcases hy with rfl|⟨hy,hy'⟩
     ·simp only[VR]
     ·have e:=a0f _ _ hy;subst e;exact b0u r2 _ _ hy' kt
  ·intro r b h;exact k3.base r b (by rw[←hb];exact h)
  ·intro i o hi;obtain⟨g1,g2,g3⟩:=hl i o hi;obtain⟨inf,o',h1,h2,h3,h4⟩:=k3.live i o g2;exact⟨inf,o',by rw[Phi.low_at g1];exact h1,h2,d8i r2 g3 h3,by show E'.blk inf.blk=none;rw[hb];exact h4⟩
  ·intro i j oi oj inf jnf hi hj h1 h2 h3;exact k3.inj i j oi oj inf jnf (hl i oi hi).2.1 (hl j oj hj).2.1 (some_of i inf h1) (some_of j jnf h2) h3
  ·intro i hi;show(if i<n then φ i else none)=none;have hi':n≤i:=hi;rw[if_neg (by omega)]
  ·intro r hr;obtain⟨q1,q2,q3,q4,q5⟩:=m3 r hr;exact⟨q1,q2,fun i inf hi=>q3 i inf (some_of i inf hi),q4,by show E'.blk r=none;rw[hb];exact q5⟩
 ·cases hs
theorem a8O[Ext]{P:Program}{fn:Func}{tmps:Array Value}{Rr:Ending→World→Prop}{b:Nat}{w0:World}{φ:Phi}{H:VH}(hfin: ∀w,HSim w0 φ H w→WK w0 w→ ∃v,(results fn tmps).run P w= .ok v w∧Rr (.returned v) w): ∀(rs:List Nat) (w:World),rs.Nodup→HSim w0 φ H w→WK w0 w→
  (∀r∈rs,b≤r∧w.heap[r]? =some (.deferred (some []))∧(∀i inf,φ i=some inf→inf.blk≠r)∧w0.heap.size≤r∧H.base.blk r=none)→LeavesInM Fence.wide 0 P fn tmps Rr (rs.map a7I) .returning w
 | [],w,_,hs,st,_=>hfin w hs st
 |r::rs,w,hnd,hs,st,hr=>by
  obtain⟨k1,k2,k3,k4,k5⟩:=hr r (by simp);obtain⟨g1,g2⟩:=a2E (P:=P) (o₁:=.deferred none) k2 (by simp);refine⟨by simp,.inl ⟨r,_,rfl, ?_,a8O (b:=b) hfin rs _ (List.nodup_cons.1 hnd).2 (hs.apart g2 k3 k4 k5) (st.trans g2.wk) fun x hx=> ?_⟩⟩
  ·have hge:(getObj r).run P w= .ok (.deferred (some [])) w:=by simp[getObj,Sem.run,k2]
   simp[Instr.takeDeferred,hge,g1]
  ·obtain⟨j1,j2,j3,j4,j5⟩:=hr x (List.mem_cons_of_mem _ hx);have hxr:x≠r:=fun e=>(List.nodup_cons.1 hnd).1 (e▸hx);exact⟨j1,by rw[g2.there x hxr];exact j2,j3,j4,j5⟩
theorem c1S{φ:Phi}{args:List VV}{args':List Value}{nt:Nat}(ha:VRs φ args args')(h1:args.length≤nt)(h2:nt≤top):TR φ (a5E args 0 .lf) ((⟨args'⟩:Array Value)++Array.replicate (nt-(⟨args'⟩:Array Value).size) undef):=by
 have hl:=a0R _ _ ha;intro t;rw[a8N args 0 .lf t (by omega)];simp only[Array.getD_eq_getD_getElem?,Array.getElem?_append,List.size_toArray]
 by_cases hk:0≤t∧t<0+args.length
 ·rw[if_pos hk,if_pos (by omega)];obtain⟨x,hx⟩: ∃x,args[t-0]? =some x:=⟨args[t]'(by omega),by simp[show t<args.length by omega]⟩;obtain⟨y,hy1,hy2⟩:=a2D _ _ ha _ x hx;rw[hx];simp only[Option.getD_some];rw[show((⟨args'⟩:Array Value)[t]?)=some y by simpa using hy1];exact hy2
 ·rw[if_neg hk,if_neg (by omega)]
  have:(Array.replicate (nt-args'.length) undef)[t-args'.length]?.getD undef=undef:=by rw[Array.getElem?_replicate];split<;>rfl
  rw[this];exact a2R φ
def Ends[Ext](P:Program)(fn:Func)(w0:World)(res:Value)(e:Exit)(act:Act)(w:World):Prop:=
 e= .ret∧ ∃(R:Rho→Prop) (a:VT) (H:VH) (r:VV),RS w0 R fn.ntmps a H act w∧a8E P a H fn.results.toList=some [r]∧ ∀(φ:Phi) (v:Value),R φ.ρ→VR φ r v→v=res
theorem c9G[Ext]{P:Program}{f:FuncId}{fn:Func}{c:Code}{args:List VV}{args':List Value}{w0:World}{ρ:Rho}{E:Env}{res:Value}(hf:P.funcs[f]? =some fn)(hc:fn.body=some c)(h1:Nat.ble args.length fn.ntmps=true)(h2:Nat.ble fn.ntmps top=true)
  (hE:EnvOK E ⟨fun _=>none,ρ⟩ w0) (hb: ∀r b,E.blk r=some b→ ∃o,w0.heap[r]? =some o∧BOR b o) (ha:VRs ⟨fun _=>none,ρ⟩ args args')
  (h: ∀act,RS w0 (· =ρ) fn.ntmps (a5E args 0 .lf) ⟨E,.lf,0⟩ act w0→c.wpIn (Fr none) 0 P (Ends P fn w0 res) act w0) (hno: ∀k,¬Ext.own k:=by intro k h;exact h):Calls P f ⟨args'⟩ w0 fun e w'=>e= .returned res∧Below w0.heap.size w0 w':=by
 have h1':args.length≤fn.ntmps:=Nat.le_of_ble_eq_true h1;have h2':fn.ntmps≤top:=Nat.le_of_ble_eq_true h2;have hl:=a0R _ _ ha;have ht:=c1S ha h1' h2';have k:=h {tmps:=(⟨args'⟩:Array Value)++Array.replicate (fn.ntmps-(⟨args'⟩:Array Value).size) undef,defers:=[]} ⟨⟨fun _=>none,ρ⟩,rfl,ht,HSim.startE hE hb hno,.refl w0,by simp;omega,.nil⟩;refine(callsIn_wide (n:=0)).1 (callsIn_of_wp_marks hf hc trivial (wpIn_mono k ?_));rintro e act' w' ⟨rfl,R,a,H,r,⟨φ,k1,k2,k3,k4,k5,rs,m1,m2,m3⟩,hr,hv⟩;show LeavesInM Fence.wide 0 P fn act'.tmps _ act'.defers .returning w';rw[m1];refine a8O (b:=w0.heap.size) (w0:=w0) (φ:=φ) (H:=H) (fun w'' hs'' st''=> ?_) rs w' m2 k3 k4 m3;obtain⟨v',r1,r2⟩:=a1j (P:=P) k2 hs'' hr;exact⟨v',r1,by rw[hv φ v' k1 r2],st''.os,st''.tape,st''.output,st''.size,fun k hk=>hs''.old.same k hk (hno k)⟩
section
variable{P:Program}{nt:Nat}
end
structure Side where
 nt:Nat
 LB:Code
 a0:VT
 l:TT VO
 nH:Nat
 ix:List (Nat×IntKind×Nat×Nat)
 res:List ResultVar
 bad:VV
def Side.sp(s:Side):List (Nat×VV):=s.ix.map fun p=>(p.1,.sint p.2.1 p.2.2.1)
def e3A(a:VT):List (Nat×IntKind×Nat×Nat)→Bool
 | []=>true
 |(t,k,_,j)::l=>match a1E (a1I a t) (.sint k j),Nat.blt t top with
  |true,true=>e3A a l|_,_=>false
def Side.out(P:Program)(rc:CE)(N:Nat)(s:Side)(E:Env):Option Bool:=match rc s.nt s.LB (c5n s.sp s.a0) ⟨E,s.l,s.nH⟩with
 |some (.normal,a,H)=>match e3A a s.ix,swB N s.nH a H s.a0 s.l with
  |true,true=>some true|_,_=>none
 |some (.ret,a,H)=>match a8E P a H s.res with
  |some [r]=>match a1E r s.bad with
   |true=>some false|false=>none
  |_=>none
 |_=>none
theorem b1V{ρ:Rho}{x:VV}{a:Option Addr}{l c i:Nat}(hx:a0g ρ x=some (.slice a l c))(hi:ρ.int i=l):FactOK ρ (.len false x (.sint .i64 i)):=
 ⟨_,l,hx,⟨a,c,rfl⟩,by simp[a0g,hi]⟩
theorem c7R{ρ:Rho}{x:VV}{B O l c size i j n:Nat}{k:IntKind}(hx:a0g ρ x=some (.slice (some ⟨B,O,none⟩) l c))(hi:ρ.int i=n)(hn:n<l)(hb:ρ.blk j=B)(ho:ρ.off j=O+n*size):FactOK ρ (.at size x (.sint k i) ⟨.sym j,0⟩):=
 ⟨⟨B,O,none⟩,l,c,k,n,j,hx,rfl,by simp[a0g,hi],by omega,by omega,rfl,hb,by simp[ho]⟩
theorem c2g{ρ:Rho}{i j:Nat}{z:Int}(h:ρ.int j=ρ.int i+z)(h1: -9223372036854775808≤ρ.int j)(h2:ρ.int j≤9223372036854775807):FactOK ρ (.bin .add (.sint .i64 i) (.int .i64 z) (.sint .i64 j)):=by
 refine⟨_,_,_,rfl,rfl,rfl,by simp,by simp,fun P t w=> ?_⟩
 have e:IntKind.i64.wrap (ρ.int i+z)=ρ.int j:=by rw[←h];exact b9k (by simpa[IntKind.min,IntKind.signed,IntKind.bits]using h1) (by simpa[IntKind.max,IntKind.signed,IntKind.bits]using h2)
 simp[binOp,Op.intArith,e]
theorem d3r{f:Nat→Int}(h: ∀i,-9223372036854775808≤f i∧f i≤9223372036854775807): ∀i,(a2B [] i).1≤f i∧f i≤(a2B [] i).2:=h
theorem c9x{a b:Int}{l:Ivs}{f:Nat→Int}(h0:a≤f 0∧f 0≤b)(h: ∀i,(a2B l i).1≤f (i+1)∧f (i+1)≤(a2B l i).2): ∀i,(a2B ((a,b)::l) i).1≤f i∧f i≤(a2B ((a,b)::l) i).2
 |0=>h0|i+1=>h i
theorem d7Y[Ext]{P:Program}(hng:a6U P)(hm:P.follows .mixedOrders=true){kn:KN}(hK:c4o P kn)(n:Nat):d0l P (· =none) (evN P (a3a P) kn n).1.1:=
 (a8c hng (fun _ h=>a3K hng hm h) hK n).1.2
inductive TrB where
 |leaf (b:Bool)
 |cut (i:Nat) (c:Int) (l r:TrB)
 |rel (k:IntKind) (i j:Nat) (l r:TrB)
def TrB.tr:TrB→Tr
 |.leaf _=>.leaf|.cut i c l r=>.cut i c l.tr r.tr|.rel k i j l r=>.rel k i j l.tr r.tr
def c8b:TrB→Ivs→List (Nat×Nat×Bool)→Option Bool
 |.leaf b,_,_=>some b
 |.cut i c l r,iv,rs=>match decide ((a2B iv i).2≤c),decide (c<(a2B iv i).1)with
  |true,_=>c8b l iv rs|_,true=>c8b r iv rs|_,_=>none
 |.rel _ i j l r,iv,rs=>match decide ((a2B iv i).2<(a2B iv j).1),decide ((a2B iv j).2≤(a2B iv i).1)with
  |true,_=>c8b l iv rs|_,true=>c8b r iv rs
  |_,_=>match relAt rs i j with
   |some true=>c8b l iv rs|some false=>c8b r iv rs|none=>none
where
 relAt:List (Nat×Nat×Bool)→Nat→Nat→Option Bool
  | [],_,_=>none
  |(a,b,x)::l,i,j=>match Nat.beq a i,Nat.beq b j with
   |true,true=>some x|_,_=>relAt l i j
def VOK(iv:Ivs)(rs:List (Nat×Nat×Bool))(v:Nat→Int):Prop:=(∀i,(a2B iv i).1≤v i∧v i≤(a2B iv i).2)∧ ∀p∈rs,decide (v p.1<v p.2.1)=p.2.2
theorem b6k: ∀{rs:List (Nat×Nat×Bool)} {i j:Nat} {x:Bool},c8b.relAt rs i j=some x→(i,j,x)∈rs
 | [],_,_,_,h=>by cases h
 |(a,b,y)::l,i,j,x,h=>by
  simp only[c8b.relAt]at h;split at h
  ·rename_i h1 h2;simp only[Option.some.injEq]at h;rw[Nat.eq_of_beq_eq_true h1,Nat.eq_of_beq_eq_true h2,h];exact List.mem_cons_self ..
  ·exact List.mem_cons_of_mem _ (b6k h)
theorem VOK.hi{iv:Ivs}{rs:List (Nat×Nat×Bool)}{v:Nat→Int}(h:VOK iv rs v){i:Nat}{c:Int}(hc:v i≤c):VOK (a2K iv i c) rs v:=by
 refine⟨fun j=> ?_,h.2⟩;rcases c0f iv i c j with e|⟨rfl,e⟩
 ·rw[e];exact h.1 j
 ·rw[e];exact⟨(h.1 j).1,hc⟩
theorem VOK.lo{iv:Ivs}{rs:List (Nat×Nat×Bool)}{v:Nat→Int}(h:VOK iv rs v){i:Nat}{c:Int}(hc:c≤v i):VOK (a0n iv i c) rs v:=by
 refine⟨fun j=> ?_,h.2⟩;rcases c0e iv i c j with e|⟨rfl,e⟩
 ·rw[e];exact h.1 j
 ·rw[e];exact⟨hc,(h.1 j).2⟩
theorem VOK.rel{iv:Ivs}{rs:List (Nat×Nat×Bool)}{v:Nat→Int}(h:VOK iv rs v){i j:Nat}{b:Bool}(hc:decide (v i<v j)=b):VOK iv ((i,j,b)::rs) v:=by
 refine⟨h.1,fun p hp=> ?_⟩;rcases List.mem_cons.1 hp with rfl|hp
 ·exact hc
 ·exact h.2 p hp
structure EnvP(E:Env)(φ:Phi)(w0:World):Prop where
 ivl: ∀i,(E.ivl i).1≤φ.ρ.int i∧φ.ρ.int i≤(E.ivl i).2
 tab: ∀f∈E.tab,FactOK φ.ρ f
 sblk: ∀i c,E.sblk i=some c→φ.ρ.blk i<w0.heap.size∧ ∀j x,c[j]? =some x→ ∃v,w0.cell? ⟨φ.ρ.blk i,φ.ρ.off i+j,none⟩=some v∧VR φ x v
structure EnvM(E:Env)(φ:Phi)(w0:World):Prop where
 ivl: ∀i,(E.ivl i).1≤φ.ρ.int i∧φ.ρ.int i≤(E.ivl i).2
 tab: ∀f∈E.tab,FactW φ w0 f
 sblk: ∀i c,E.sblk i=some c→φ.ρ.blk i<w0.heap.size∧ ∀j x,c[j]? =some x→ ∃v,w0.cell? ⟨φ.ρ.blk i,φ.ρ.off i+j,none⟩=some v∧VR φ x v
theorem EnvM.ok[Ext]{E:Env}{φ:Phi}{w0:World}(h:EnvM E φ w0)(k:Ext.ok φ.ρ w0):EnvOK E φ w0:=⟨k,h.ivl,h.tab,h.sblk⟩
theorem EnvP.toM{E:Env}{φ:Phi}{w0:World}(h:EnvP E φ w0):EnvM E φ w0:=⟨h.ivl,fun f hf=>(h.tab f hf).w,h.sblk⟩
theorem EnvP.ok[Ext]{E:Env}{φ:Phi}{w0:World}(h:EnvP E φ w0)(k:Ext.ok φ.ρ w0):EnvOK E φ w0:=h.toM.ok k
abbrev b2i(P:Program)(KT:List KE):Ext:=⟨fun ρ w=> ∀e∈KT,c4j P ρ w e,fun _=>False⟩
def b6m(P:Program)(KT:List KE)(n:Nat):CE:=(evN P (a3a P) (knL KT) n).1.1
end
end Go.Ev
