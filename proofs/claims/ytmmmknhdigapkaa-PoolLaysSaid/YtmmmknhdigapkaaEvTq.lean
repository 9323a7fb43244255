/- Engine, part Tk: code in parts, cut at loops' heads and ahead of operations of regions that are not drawn. -/
import Derived.Test.YtmmmknhdigapkaaEvTj
import Derived.Deep.Slices
namespace Go.Ev
set_option linter.unusedVariables false
noncomputable section
open Go.RowKit
def e2V(r k:Nat):List (Nat×Nat)→Bool
 | []=>false
 |p::l=>match Nat.beq p.1 r,Nat.beq p.2 k with
  |true,true=>true
  |_,_=>e2V r k l
def e2U(r:Nat):List (Nat×Nat)→Bool
 | []=>false
 |p::l=>match Nat.beq p.1 r with
  |true=>true
  |false=>e2U r l
def b5A(O:List (Nat×Nat))(r:Nat):Nat→Nat→Option Nat
 |0,_=>none
 |n+1,k=>match e2V r k O with
  |true=>some k
  |false=>b5A O r n (k+1)
def b2H(O:List (Nat×Nat)):Code→Bool
 |.region id _ _=>e2U id O
 |.seq x y=>match b2H O x with
  |true=>true
  |false=>b2H O y
 |.cond _ x y=>match b2H O x with
  |true=>true
  |false=>b2H O y
 |.block _ c=>b2H O c
 |.loop c=>b2H O c
 |_=>false
def a2Q:Code→List Nat
 |.region id _ _=>[id]
 |.seq x y=>a2Q x++a2Q y
 |.cond _ x y=>a2Q x++a2Q y
 |.block _ c=>a2Q c
 |.loop c=>a2Q c
 |_=>[]
def a8z(r:Nat):Code→Nat→List Fr1→Option (List Oper×List Fr1)
 |.region id ⟨ops⟩ d,n,K=>match Nat.beq id r,d with
  |true,false=>some (ops,K)
  |_,_=>none
 |.seq x y,n,K=>match a8z r x n (.sq y (n+nl x)::K)with
  |some z=>some z
  |none=>a8z r y (n+nl x) K
 |.cond _ x y,n,K=>match a8z r x n K with
  |some z=>some z
  |none=>a8z r y (n+nl x) K
 |.block id c,n,K=>a8z r c n (.bk id::K)
 |.loop c,n,K=>a8z r c (n+1) (.lp c n::K)
 |_,_,_=>none
theorem a2U{r:Nat}: ∀{c:Code} {n:Nat} {K:List Fr1},r∉a2Q c→a8z r c n K=none
 |.region id ⟨ops⟩ d,n,K,h=>by
  simp only[a8z]
  split
  ·rename_i h1
   exact absurd (by simp[a2Q,Nat.eq_of_beq_eq_true h1]) h
  ·rfl
 |.seq x y,n,K,h=>by
  simp only[a2Q,List.mem_append,not_or]at h
  simp only[a8z,a2U h.1]
  exact a2U h.2
 |.cond _ x y,n,K,h=>by
  simp only[a2Q,List.mem_append,not_or]at h
  simp only[a8z,a2U h.1]
  exact a2U h.2
 |.block id c,n,K,h=>by
  simp only[a8z]
  exact a2U (by simpa[a2Q]using h)
 |.loop c,n,K,h=>by
  simp only[a8z]
  exact a2U (by simpa[a2Q]using h)
 |.skip,_,_,_=>rfl
 |.rangeFunc _ _ _ _,_,_,_=>rfl
 |.exit _,_,_,_=>rfl
 |.scope _,_,_,_=>rfl
 |.label _,_,_,_=>rfl
 |.goto _,_,_,_=>rfl
 |.ret,_,_,_=>rfl
 |.refuse _,_,_,_=>rfl
structure AtB(body:Code)(c:Code)(n:Nat)(K:List Fr1):Prop where
 lp:At1 body c n K
 rg: ∀r∈a2Q c,a8z r body 0 []=a8z r c n K
 nd:(a2Q c).Nodup
def KOB(body:Code):List Fr1→Prop
 | []=>True
 |.sq y n::K=>AtB body y n K∧KOB body K
 |.bk _::K=>KOB body K
 |.lp _ _::K=>KOB body K
theorem b6z{l m:List Nat}(h:(l++m).Nodup):l.Nodup∧m.Nodup∧ ∀a∈l,a∉m:=by
 obtain⟨h1,h2,h3⟩:=List.nodup_append.1 h
 exact⟨h1,h2,fun a ha hm=>h3 a ha a hm rfl⟩
theorem AtB.seq{body x y:Code}{n:Nat}{K:List Fr1}(h:AtB body (.seq x y) n K):AtB body x n (.sq y (n+nl x)::K)∧AtB body y (n+nl x) K:=by
 obtain⟨d1,d2,d3⟩:=b6z (show(a2Q x++a2Q y).Nodup from h.nd)
 refine⟨⟨h.lp.seq.1,fun r hr=> ?_,d1⟩,⟨h.lp.seq.2,fun r hr=> ?_,d2⟩⟩
 ·rw[h.rg r (List.mem_append_left _ hr)]
  simp only[a8z]
  split
  ·rename_i z hz
   rw[hz]
  ·rename_i hz
   rw[hz]
   exact a2U (d3 r hr)
 ·rw[h.rg r (List.mem_append_right _ hr)]
  simp only[a8z]
  rw[a2U (c:=x) fun hx=>d3 r hx hr]
theorem AtB.cond{body x y:Code}{o:Operand}{n:Nat}{K:List Fr1}(h:AtB body (.cond o x y) n K):AtB body x n K∧AtB body y (n+nl x) K:=by
 obtain⟨d1,d2,d3⟩:=b6z (show(a2Q x++a2Q y).Nodup from h.nd)
 refine⟨⟨h.lp.cond.1,fun r hr=> ?_,d1⟩,⟨h.lp.cond.2,fun r hr=> ?_,d2⟩⟩
 ·rw[h.rg r (List.mem_append_left _ hr)]
  simp only[a8z]
  split
  ·rename_i z hz
   rw[hz]
  ·rename_i hz
   rw[hz]
   exact a2U (d3 r hr)
 ·rw[h.rg r (List.mem_append_right _ hr)]
  simp only[a8z]
  rw[a2U (c:=x) fun hx=>d3 r hx hr]
theorem AtB.block{body c:Code}{id n:Nat}{K:List Fr1}(h:AtB body (.block id c) n K):AtB body c n (.bk id::K):=⟨h.lp.block,fun r hr=>by rw[h.rg r hr];rfl,h.nd⟩
theorem AtB.loop{body c:Code}{n:Nat}{K:List Fr1}(h:AtB body (.loop c) n K):ctx n body 0 []=some (c,K)∧AtB body c (n+1) (.lp c n::K):=⟨h.lp.loop.1,h.lp.loop.2,fun r hr=>by rw[h.rg r hr];rfl,h.nd⟩
theorem KOB.ok{body:Code}: ∀{K:List Fr1},KOB body K→KOK body K
 | [],_=>trivial
 |.sq y n::K,h=>⟨h.1.lp,KOB.ok h.2⟩
 |.bk _::K,h=>KOB.ok (K:=K) h
 |.lp _ _::K,h=>KOB.ok (K:=K) h
theorem a7h{body:Code}: ∀{x:Code} {n:Nat} {K:List Fr1} {t:Nat} {c:Code} {K':List Fr1},AtB body x n K→KOB body K→n≤t→t<n+nl x→ctx t x n K=some (c,K')→AtB body (.loop c) t K'∧KOB body K'
 |.seq x y,n,K,t,c,K',h,hk,h1,h2,hc=>by
  simp only[nl]at h2
  simp only[ctx]at hc
  split at hc
  ·rename_i hb
   have hb:t<n+nl x:=a4h hb
   exact a7h h.seq.1 ⟨h.seq.2,hk⟩ h1 hb hc
  ·rename_i hb
   have hb:=a8Y hb
   exact a7h h.seq.2 hk hb (by omega) hc
 |.cond o x y,n,K,t,c,K',h,hk,h1,h2,hc=>by
  simp only[nl]at h2
  simp only[ctx]at hc
  split at hc
  ·rename_i hb
   have hb:t<n+nl x:=a4h hb
   exact a7h h.cond.1 hk h1 hb hc
  ·rename_i hb
   have hb:=a8Y hb
   exact a7h h.cond.2 hk hb (by omega) hc
 |.block id x,n,K,t,c,K',h,hk,h1,h2,hc=>a7h (K:=.bk id::K) h.block hk h1 h2 (by simpa only[ctx]using hc)
 |.loop x,n,K,t,c,K',h,hk,h1,h2,hc=>by
  simp only[ctx]at hc
  simp only[nl]at h2
  split at hc
  ·rename_i hb
   cases hc
   rw[Nat.eq_of_beq_eq_true hb]
   exact⟨h,hk⟩
  ·rename_i hb
   have hne:t≠n:=fun e=>by
    subst e
    rw[Nat.beq_refl]at hb
    cases hb
   exact a7h (K:=.lp x n::K) h.loop.2 hk (by omega) (by omega) hc
 |.region _ _ _,n,K,t,c,K',_,_,_,_,hc=>by simp[ctx]at hc
 |.skip,n,K,t,c,K',_,_,_,_,hc=>by simp[ctx]at hc
 |.rangeFunc _ _ _ _,n,K,t,c,K',_,_,_,_,hc=>by simp[ctx]at hc
 |.exit _,n,K,t,c,K',_,_,_,_,hc=>by simp[ctx]at hc
 |.scope _,n,K,t,c,K',_,_,_,_,hc=>by simp[ctx]at hc
 |.label _,n,K,t,c,K',_,_,_,_,hc=>by simp[ctx]at hc
 |.goto _,n,K,t,c,K',_,_,_,_,hc=>by simp[ctx]at hc
 |.ret,n,K,t,c,K',_,_,_,_,hc=>by simp[ctx]at hc
 |.refuse _,n,K,t,c,K',_,_,_,_,hc=>by simp[ctx]at hc
inductive SegP where
 |cut (t:Nat) (a:VT) (H:VH)
 |mid (r k:Nat) (a:VT) (H:VH)
 |out (x:VX) (a:VT) (H:VH)
def d3G(P:Program)(fe:FE)(nt:Nat)(O:List (Nat×Nat))(r:Nat)(ops:List Oper)(k0:Nat)(a:VT)(H:VH):Option (Option Nat×VT×VH):=match b5A O r ops.length k0 with
 |some k=>match a2a P fe nt ops ((ops.take k).drop k0) a H with
  |some (a',H')=>some (some k,a',H')
  |none=>none
 |none=>match a2a P fe nt ops (ops.drop k0) a H with
  |some (a',H')=>some (none,a',H')
  |none=>none
def c0X(P:Program)(rc:Go.Ev.CE)(fe:FE)(nt:Nat)(S:List Nat)(O:List (Nat×Nat)):Nat→Code→Nat→List Fr1→VT→VH→Option SegP
 |0,_,_,_,_,_=>none
 |f+1,c,n,K,a,H=>match c5Q S n (nl c),b2H O c with
  |false,false=>match rc nt c a H with
   |some (x,a',H')=>match pop x K with
    |.code y n K=>c0X P rc fe nt S O f y n K a' H'
    |.head n=>some (.cut n a' H')
    |.done x=>some (.out x a' H')
   |none=>none
  |_,_=>match c with
   |.seq x y=>c0X P rc fe nt S O f x n (.sq y (n+nl x)::K) a H
   |.block id c=>c0X P rc fe nt S O f c n (.bk id::K) a H
   |.cond o x y=>match a0B a o with
    |some (.bool b)=>match b with
     |true=>c0X P rc fe nt S O f x n K a H
     |false=>c0X P rc fe nt S O f y (n+nl x) K a H
    |_=>none
   |.loop _=>some (.cut n a H)
   |.region r ⟨ops⟩ false=>match d3G P fe nt O r ops 0 a H with
    |some (some k,a',H')=>some (.mid r k a' H')
    |some (none,a',H')=>match pop .normal K with
     |.code y n K=>c0X P rc fe nt S O f y n K a' H'
     |.head n=>some (.cut n a' H')
     |.done x=>some (.out x a' H')
    |none=>none
   |_=>none
def d7K(P:Program)(rc:Go.Ev.CE)(fe:FE)(nt:Nat)(S:List Nat)(O:List (Nat×Nat))(f:Nat)(r:Nat)(ops:List Oper)(k0:Nat)(K:List Fr1)(a:VT)(H:VH):Option SegP:=match d3G P fe nt O r ops k0 a H with
 |some (some k,a',H')=>some (.mid r k a' H')
 |some (none,a',H')=>match pop .normal K with
  |.code y n K=>c0X P rc fe nt S O f y n K a' H'
  |.head n=>some (.cut n a' H')
  |.done x=>some (.out x a' H')
 |none=>none
theorem range_split{a b c:Nat}(h1:a≤b)(h2:b≤c):List.range' a (c-a)=List.range' a (b-a)++List.range' b (c-b):=by
 have:=List.range'_append_1 (s:=a) (m:=b-a) (n:=c-b)
 rw[show a+(b-a)=b by omega,show b-a+(c-b)=c-a by omega]at this
 exact this.symm
theorem a9P{O:List (Nat×Nat)}{r:Nat}: ∀{n k j:Nat},b5A O r n k=some j→k≤j∧j<k+n
 |0,_,_,h=>by cases h
 |n+1,k,j,h=>by
  simp only[b5A]at h
  split at h
  ·cases h
   omega
  ·have:=a9P h
   omega
section
variable{P:Program}{Q:Exit→Act→World→Prop}{HD:Nat→Act→World→Prop}
theorem a4d[Ext](hng:a4B P){fe:FE}(hfe:FEok P fe){F:Frm}{w0:World}{R:Rho→Prop}{sz nt:Nat}(hnt:nt≤top)(hsz:nt≤sz){all pre l post:List Oper}(hall:all=pre++(l++post)){a a₁:VT}{H H₁:VH}(hr:a2a P fe nt all l a H=some (a₁,H₁)){act:Act}{w:World}(k:RSG F w0 R sz a H act w){Q:Exit→Act→World→Prop}{rest:List Nat}
  (hQ: ∀act' w',H₁.base=H.base→RSG F w0 R sz a₁ H₁ act' w'→wpOpsIn (Fr none) 0 P ⟨all⟩ Q rest act' w'):wpOpsIn (Fr none) 0 P ⟨all⟩ Q (List.range' pre.length l.length++rest) act w:=by
 obtain⟨φ,k1,k2,k3,k4,k5,k6⟩:=k
 refine a5h (a8H hng hfe hnt none l pre a H a₁ H₁ hall hr φ act w k2 k3 (by omega) (fun _=>False) (by rw[k6];exact .nil) _ ?_)
 rintro act' w' ⟨φ',_,h2,h3,h4,q1,h6,h7⟩
 exact hQ act' w' q1 ⟨φ',by rw[h2.le.2];exact k1,h3,h4,k4.step h2,h6.trans k5,h7.no⟩
theorem a1Q{body:Code}{act:Act}{w:World}: ∀{K:List Fr1} {x:VX},KOB body K→
  (match pop x K with
   |.code y n K'=>AtB body y n K'→KOB body K'→y.wpIn (Fr none) 0 P (a0X P HD Q K') act w
   |.head n=>HD n act w
   |.done x=>Q x.real act w)→a0X P HD Q K x.real act w
 | [],x,_,h=>by simpa only[pop,a0X]using h
 |.sq y n::K,x,hk,h=>by
  cases x with
  |normal=>simp only[pop]at h;simp only[a0X,VX.real,Exit.then];exact h hk.1 hk.2
  |ret=>simp only[pop]at h;simp only[a0X,VX.real,Exit.then];exact a1Q (x:=.ret) hk.2 h
  |exit j=>simp only[pop]at h;simp only[a0X,VX.real,Exit.then];exact a1Q (x:=.exit j) hk.2 h
 |.bk id::K,x,hk,h=>by
  cases x with
  |normal=>simp only[pop]at h;simp only[a0X,VX.real,Exit.inBlock];exact a1Q (x:=.normal) (show KOB body K from hk) h
  |ret=>simp only[pop]at h;simp only[a0X,VX.real,Exit.inBlock];exact a1Q (x:=.ret) (show KOB body K from hk) h
  |exit j=>
   simp only[pop]at h
   simp only[a0X,VX.real,Exit.inBlock]
   by_cases e:j=id
   ·subst e
    have e1:Nat.beq j j=true:=by simp
    rw[e1]at h
    rw[if_pos rfl]
    exact a1Q (x:=.normal) (show KOB body K from hk) h
   ·have e1:Nat.beq j id=false:=d2i e
    rw[e1]at h
    rw[if_neg e]
    exact a1Q (x:=.exit j) (show KOB body K from hk) h
 |.lp c n::K,x,hk,h=>by
  cases x with
  |normal=>simp only[pop]at h;simp only[a0X,VX.real,Exit.then];exact h
  |ret=>simp only[pop]at h;simp only[a0X,VX.real,Exit.then];exact a1Q (x:=.ret) (show KOB body K from hk) h
  |exit j=>simp only[pop]at h;simp only[a0X,VX.real,Exit.then];exact a1Q (x:=.exit j) (show KOB body K from hk) h
def GoP[Ext](P:Program)(F:Frm)(w0:World)(R:Rho→Prop)(sz:Nat)(body:Code)(HD:Nat→Act→World→Prop)(Q:Exit→Act→World→Prop)(H:VH):SegP→Prop
 |.cut t a' H'=> ∀act' w',H'.base=H.base→RSG F w0 R sz a' H' act' w'→HD t act' w'∧ ∀c' K',ctx t body 0 []=some (c',K')→(Code.loop c').wpIn (Fr none) 0 P (a0X P HD Q K') act' w'
 |.mid r k a' H'=> ∀act' w',H'.base=H.base→RSG F w0 R sz a' H' act' w'→ ∀ops K',a8z r body 0 []=some (ops,K')→KOB body K'→wpOpsIn (Fr none) 0 P ⟨ops⟩ (a0X P HD Q K') (List.range' k (ops.length-k)) act' w'
 |.out x a' H'=> ∀act' w',H'.base=H.base→RSG F w0 R sz a' H' act' w'→Q x.real act' w'
theorem GoP.base[Ext]{F:Frm}{w0:World}{R:Rho→Prop}{sz:Nat}{body:Code}{H H':VH}(e:H'.base=H.base): ∀{o:SegP},GoP P F w0 R sz body HD Q H o→GoP P F w0 R sz body HD Q H' o
 |.cut t a'' H'',h=>fun act' w' e'=>h act' w' (e'.trans e)
 |.mid r k a'' H'',h=>fun act' w' e'=>h act' w' (e'.trans e)
 |.out x a'' H'',h=>fun act' w' e'=>h act' w' (e'.trans e)
theorem a1z[Ext](hng:a4B P){Rr:Option Nat→Prop}(hRr:Rr none){rc:Go.Ev.CE}(hrc:CEokT P False Rr rc){fe:FE}(hfe:FEok P fe){F:Frm}{w0:World}{R:Rho→Prop}{sz nt:Nat}(hnt:nt≤top)(hsz:nt≤sz){body:Code}{S:List Nat}{O:List (Nat×Nat)}: ∀{f:Nat} {c:Code} {n:Nat} {K:List Fr1} {a:VT} {H:VH} {o:SegP},AtB body c n K→KOB body K→c0X P rc fe nt S O f c n K a H=some o→
  ∀{act:Act} {w:World},RSG F w0 R sz a H act w→GoP P F w0 R sz body HD Q H o→c.wpIn (Fr none) 0 P (a0X P HD Q K) act w
 |0,c,n,K,a,H,o,_,_,h,_,_,_,_=>by simp[c0X]at h
 |f+1,c,n,K,a,H,o,hat,hk,h,act,w,k,hq=>by
  simp only[c0X]at h
  split at h
  ·split at h
   ·rename_i x a' H' hr
    obtain⟨φ,k1,k2,k3,k4,k5,k6⟩:=k
    refine wpIn_mono (hrc w0 nt c a H x a' H' hr hnt none hRr φ act w k2 k3 (by omega) (fun _=>False) (fun h=>h.elim) (by rw[k6];exact .nil)) ?_
    rintro e act' w' ⟨φ',rfl,h2,h3,h4,q1,h6,h7⟩
    have q2:RSG F w0 R sz a' H' act' w':=⟨φ',by rw[h2.le.2];exact k1,h3,h4,k4.step h2,h6.trans k5,h7.no⟩
    refine a1Q hk ?_
    split at h
    ·rename_i y m K' hp
     intro g1 g2
     exact a1z hng hRr hrc hfe hnt hsz g1 g2 h q2 (hq.base q1)
    ·rename_i m hp
     simp only[Option.some.injEq]at h
     subst h
     exact(hq act' w' q1 q2).1
    ·rename_i x' hp
     simp only[Option.some.injEq]at h
     subst h
     exact hq act' w' q1 q2
   ·cases h
  ·split at h
   ·rename_i x y _
    refine wpIn_seq ?_
    exact a1z hng hRr hrc hfe hnt hsz (K:=.sq y (n+nl x)::K) hat.seq.1 ⟨hat.seq.2,hk⟩ h k hq
   ·rename_i id c _
    refine wpIn_block ?_
    exact a1z hng hRr hrc hfe hnt hsz (K:=.bk id::K) hat.block hk h k hq
   ·rename_i oc x y _
    split at h
    ·rename_i b hb
     obtain⟨φ,k1,k2,k3⟩:=k
     have hv:=a0A k2 hb
     simp only[VR]at hv
     have k:RSG F w0 R sz a H act w:=⟨φ,k1,k2,k3⟩
     split at h
     ·exact wpIn_cond hv (a1z hng hRr hrc hfe hnt hsz hat.cond.1 hk h k hq)
     ·exact wpIn_cond hv (a1z hng hRr hrc hfe hnt hsz hat.cond.2 hk h k hq)
    ·cases h
   ·simp only[Option.some.injEq]at h
    subst h
    exact(hq act w rfl k).2 _ _ hat.loop.1
   ·rename_i r ops _
    have hcr:a8z r body 0 []=some (ops,K):=by
     rw[hat.rg r (by simp[a2Q])]
     simp[a8z]
    refine wpIn_region ?_
    show wpOpsIn (Fr none) 0 P ⟨ops⟩ (a0X P HD Q K) (List.range ops.length) act w
    split at h
    ·rename_i kk a' H' ho
     cases h
     unfold d3G at ho
     split at ho
     ·rename_i k2 hn
      split at ho
      ·rename_i a2 H2 hr
       cases ho
       obtain⟨l1,l2⟩:=a9P hn
       have e:List.range ops.length=List.range' ([]:List Oper).length (ops.take kk).length++List.range' kk (ops.length-kk):=by
        have:=range_split (a:=0) (b:=kk) (c:=ops.length) (by omega) (by omega)
        rw[List.length_take,Nat.min_eq_left (by omega),List.length_nil,List.range_eq_range']
        exact this
       rw[e]
       refine a4d hng hfe hnt hsz (pre:=[]) (l:=ops.take kk) (post:=ops.drop kk) (by simp) (by simpa using hr) k fun act' w' q1 q2=> ?_
       exact hq act' w' q1 q2 ops K hcr hk
      ·cases ho
     ·split at ho<;>cases ho
    ·rename_i a' H' ho
     unfold d3G at ho
     split at ho
     ·split at ho<;>cases ho
     ·split at ho
      ·rename_i a2 H2 hr
       cases ho
       have e:List.range ops.length=List.range' ([]:List Oper).length ops.length++ []:=by rw[List.append_nil,List.length_nil,List.range_eq_range']
       rw[e]
       refine a4d hng hfe hnt hsz (pre:=[]) (l:=ops) (post:=[]) (by simp) (by simpa using hr) k fun act' w' q1 q2=> ?_
       show a0X P HD Q K VX.normal.real act' w'
       refine a1Q hk ?_
       split at h
       ·rename_i y m K' hp
        intro g1 g2
        exact a1z hng hRr hrc hfe hnt hsz g1 g2 h q2 (hq.base q1)
       ·rename_i m hp
        simp only[Option.some.injEq]at h
        subst h
        exact(hq act' w' q1 q2).1
       ·rename_i x' hp
        simp only[Option.some.injEq]at h
        subst h
        exact hq act' w' q1 q2
      ·cases ho
    ·cases h
   ·cases h
theorem c2I[Ext](hng:a4B P){Rr:Option Nat→Prop}(hRr:Rr none){rc:Go.Ev.CE}(hrc:CEokT P False Rr rc){fe:FE}(hfe:FEok P fe){F:Frm}{w0:World}{R:Rho→Prop}{sz nt:Nat}(hnt:nt≤top)(hsz:nt≤sz){body:Code}{S:List Nat}{O:List (Nat×Nat)}{f r k0:Nat}{ops:List Oper}{K:List Fr1}{a:VT}{H:VH}{o:SegP}(hcr:a8z r body 0 []=some (ops,K))(hk:KOB body K)(h0:k0≤ops.length)(h:d7K P rc fe nt S O f r ops k0 K a H=some o)
  {act:Act} {w:World} (k:RSG F w0 R sz a H act w) (hq:GoP P F w0 R sz body HD Q H o):wpOpsIn (Fr none) 0 P ⟨ops⟩ (a0X P HD Q K) (List.range' k0 (ops.length-k0)) act w:=by
 unfold d7K at h
 split at h
 ·rename_i kk a' H' ho
  cases h
  unfold d3G at ho
  split at ho
  ·rename_i k2 hn
   split at ho
   ·rename_i a2 H2 hr
    cases ho
    obtain⟨l1,l2⟩:=a9P hn
    have hkk:kk≤ops.length∨ops.length<kk:=by omega
    rcases hkk with hkk|hkk
    ·have el:((ops.take kk).drop k0).length=kk-k0:=by rw[List.length_drop,List.length_take,Nat.min_eq_left hkk]
     have e:List.range' k0 (ops.length-k0)=List.range' (ops.take k0).length ((ops.take kk).drop k0).length++List.range' kk (ops.length-kk):=by
      rw[el,List.length_take,Nat.min_eq_left h0]
      exact range_split l1 hkk
     have ea:ops=ops.take k0++((ops.take kk).drop k0++ops.drop kk):=by
      rw[←List.append_assoc]
      have:ops.take k0=(ops.take kk).take k0:=by rw[List.take_take,Nat.min_eq_left l1]
      rw[this,List.take_append_drop,List.take_append_drop]
     rw[e]
     refine a4d hng hfe hnt hsz (pre:=ops.take k0) (l:=(ops.take kk).drop k0) (post:=ops.drop kk) ea hr k fun act' w' q1 q2=> ?_
     exact hq act' w' q1 q2 ops K hcr hk
    ·have e1:ops.take kk=ops:=List.take_of_length_le (by omega)
     rw[e1]at hr
     have e:List.range' k0 (ops.length-k0)=List.range' (ops.take k0).length (ops.drop k0).length++List.range' kk (ops.length-kk):=by
      rw[show ops.length-kk=0 by omega,List.length_take,List.length_drop,Nat.min_eq_left h0]
      simp
     rw[e]
     refine a4d hng hfe hnt hsz (pre:=ops.take k0) (l:=ops.drop k0) (post:=[]) (by rw[List.append_nil];exact(List.take_append_drop k0 ops).symm) hr k fun act' w' q1 q2=> ?_
     exact hq act' w' q1 q2 ops K hcr hk
   ·cases ho
  ·split at ho<;>cases ho
 ·rename_i a' H' ho
  unfold d3G at ho
  split at ho
  ·split at ho<;>cases ho
  ·split at ho
   ·rename_i a2 H2 hr
    cases ho
    have e:List.range' k0 (ops.length-k0)=List.range' (ops.take k0).length (ops.drop k0).length++ []:=by
     rw[List.append_nil,List.length_take,List.length_drop,Nat.min_eq_left h0]
    rw[e]
    refine a4d hng hfe hnt hsz (pre:=ops.take k0) (l:=ops.drop k0) (post:=[]) (by rw[List.append_nil];exact(List.take_append_drop k0 ops).symm) hr k fun act' w' q1 q2=> ?_
    show a0X P HD Q K VX.normal.real act' w'
    refine a1Q hk ?_
    split at h
    ·rename_i y m K' hp
     intro g1 g2
     exact a1z hng hRr hrc hfe hnt hsz g1 g2 h q2 (hq.base q1)
    ·rename_i m hp
     simp only[Option.some.injEq]at h
     subst h
     exact(hq act' w' q1 q2).1
    ·rename_i x' hp
     simp only[Option.some.injEq]at h
     subst h
     exact hq act' w' q1 q2
   ·cases ho
 ·cases h
end
end
end Go.Ev
namespace Go.Ev
set_option linter.unusedVariables false
noncomputable section
open Go.RowKit
def bdL:List BlS→List (Nat×Int)
 | []=>[]
 |.lst j _ _ _ n::l=>(j,(n:Int))::bdL l
 |_::l=>bdL l
def pi0(tys:List Ty)(bl:List BlS):PI:=⟨tys,[],[],0,[],[],bdL bl,[]⟩
structure Cf where
 f:FuncId
 sh:List Sh
 rs:List Sh
 pre:List G→Prop
 post:List G→List G→Prop
structure CfOK(P:Program)(c:Cf):Prop where
 nw: ∀t∈a0O c.rs,b8v t=true
 ok: ∀w gs (L:List Nat),(∀b∈L,b<w.heap.size)→TyL (a0O c.sh) gs→GML (a0d w L) gs→c.pre gs→
  Calls P c.f ⟨a4T c.sh gs⟩ w fun e w'=> ∃us,c.post gs us∧e= .returned (b3D c.rs us)∧TyL (a0O c.rs) us∧GML (a0d w' L) us∧Below w.heap.size w w'
structure MdE where
 r:Nat
 k:Nat
 c:Nat
 xs:List VV
 sg:Sig
 tr:Vt
structure FnV where
 psh:List Sh
 rs:List Sh
 S:List Nat
 O:List (Nat×Nat)
 ent:Vt
 hd:List (Nat×Sig×Vt)
 md:List (Nat×MdE)
inductive Plc where
 |ent
 |lp (t:Nat)
 |md (r k:Nat)
def d1J(rs:List Sh)(n:Nat):SV:=match rs with
 | [.d _]=>.d n
 | [.st ts]=>.st (List.range' n ts.length)
 |l=>.tu l n
def b7f(d:Nat):List (Nat×SV)→List (Nat×SV)
 | []=>[]
 |q::l=>match Nat.beq q.1 d with
  |true=>b7f d l
  |false=>q::b7f d l
def aft(sg:Sig)(dst:Option Nat)(rs:List Sh):Sig:=⟨sg.tys++a0O rs,match dst with
 |some d=>(d,d1J rs sg.tys.length)::b7f d sg.tm
 |none=>sg.tm,sg.bl⟩
def c7x(n:Nat):List Nat→Bool
 | []=>true
 |j::l=>match Nat.blt j n with
  |true=>c7x n l
  |false=>false
def d9W(n:Nat):SV→Bool
 |.d j=>Nat.blt j n
 |.st js=>c7x n js
 |.tu sh j=>Nat.ble (j+(a0O sh).length) n
 |_=>true
def c2E(n:Nat):List SV→Bool
 | []=>true
 |s::l=>match d9W n s with
  |true=>c2E n l
  |false=>false
def c3A(n:Nat):List BlS→Bool
 | []=>true
 |.cells c _ _ _::l=>match c2E n c with
  |true=>c3A n l
  |false=>false
 |_::l=>c3A n l
abbrev feK(P:Program)(K:List KE):FE:=(evN P (a0x P) (knL K) 20000).2
theorem evN_fe[Ext]{P:Program}(hng:a4B P)(hm:P.follows .mixedOrders=true){kn:KN}(hK:b9v P kn)(n:Nat):FEok P (evN P (a0x P) kn n).2:=(a4m hng (fun _ h=>a2E hng hm h) hK n).2.2
theorem c5V{P:Program}(hng:a4B P)(hm:P.follows .mixedOrders=true){K:List KE}{S:Nat→Prop}: @FEok (XK P K S) P (feK P K):=by
 letI:Ext:=XK P K S
 exact evN_fe hng hm (c0w fun _ _ h=>h) 20000
def c7V(P:Program)(K:List KE)(nt:Nat)(S:List Nat)(O:List (Nat×Nat))(body:Code)(pl:Plc)(a:VT)(H:VH):Option SegP:=match pl with
 |.ent=>c0X P (rcK P K) (feK P K) nt S O 1000 body 0 [] a H
 |.lp t=>match ctx t body 0 []with
  |some (c,K')=>c0X P (rcK P K) (feK P K) nt S O 1000 c (t+1) (.lp c t::K') a H
  |none=>none
 |.md r k=>match a8z r body 0 []with
  |some (ops,K')=>match Nat.ble (k+1) ops.length with
   |true=>d7K P (rcK P K) (feK P K) nt S O 1000 r ops (k+1) K' a H
   |false=>none
  |none=>none
def c0e:List Ty→Bool
 | []=>true
 |t::l=>match b8v t with
  |true=>c0e l
  |false=>false
def c8K(nt:Nat)(sg:Sig)(bs:List (Nat×Bool)):VT:=mkT nt (sg.tm.map fun q=>(q.1,d4u bs sg.tys q.2))
def d2D(sg:Sig)(p:PI):VH:=⟨p.env,b3G (sg.bl.map (c9x p.bs sg.tys)) 0 .lf,sg.bl.length⟩
def b0b(P:Program)(res:List ResultVar)(F:FnV)(p:PI)(so:Option SegP)(t:Vt):Bool:=
 match so,t with
 |some (.cut h a H),.goto h' m xs=>match Nat.beq h h',a4i h' F.hd with
  |true,some (sg',_)=>c0i p.tys p.bd sg' m xs a H
  |_,_=>false
 |some (.mid r k a H),.goto h' m xs=>match a4i h' F.md with
  |some e=>match Nat.beq e.r r,Nat.beq e.k k with
   |true,true=>c0i p.tys p.bd e.sg m xs a H
   |_,_=>false
  |none=>false
 |some (.out x a H),.ret xs=>match e0t x,a5r P a H res,c0e (a0O F.rs)with
  |true,some l,true=>match vvsEq l (vvS F.rs (xs.map GE.vv))with
   |true=>b7P p.tys p.bd H [] (a0O F.rs) xs
   |false=>false
  |_,_,_=>false
 |_,_=>false
def b2e(P:Program)(nt:Nat)(body:Code)(res:List ResultVar)(F:FnV)(pl:Plc)(sg:Sig)(p:PI)(t:Vt):Bool:=b0b P res F p (c7V P p.ke nt F.S F.O body pl (c8K nt sg p.bs) (d2D sg p)) t
def c1z(nt:Nat)(sg:Sig):Bool:=match Nat.ble sg.bl.length 1000 with
 |true=>b6A (fun t=>Nat.blt t nt) (sg.tm.map Prod.fst)
 |false=>false
def c8h(P:Program)(C:Nat→Ct)(nt:Nat)(body:Code)(res:List ResultVar)(F:FnV):List (Nat×Sig×Vt)→Bool
 | []=>true
 |q::l=>match c1z nt q.2.1,a1K C (b2e P nt body res F (.lp q.1) q.2.1) q.2.2 (pi0 q.2.1.tys q.2.1.bl)with
  |true,true=>c8h P C nt body res F l
  |_,_=>false
def b5s(P:Program)(D:Nat→Cf)(nt:Nat)(body:Code)(e:MdE):Option (Option Nat):=match a8z e.r body 0 []with
 |some (ops,_)=>match a0K ops e.k with
  |some o=>match o.guard,(evE P o.op (c8K nt e.sg []) (d2D e.sg (pi0 e.sg.tys e.sg.bl))).get with
   |none,.enter f args=>match Nat.beq f (D e.c).f,vvsEq args (vvS (D e.c).sh e.xs),a7p e.sg.tys (a0O (D e.c).sh) e.xs with
    |true,true,true=>match c2E e.sg.tys.length (e.sg.tm.map Prod.snd),c3A e.sg.tys.length e.sg.bl with
     |true,true=>some o.dst
     |_,_=>none
    |_,_,_=>none
   |_,_=>none
  |none=>none
 |none=>none
def c8g(P:Program)(C:Nat→Ct)(D:Nat→Cf)(nt:Nat)(body:Code)(res:List ResultVar)(F:FnV):List (Nat×MdE)→Bool
 | []=>true
 |q::l=>match b5s P D nt body q.2 with
  |some dst=>match c1z nt q.2.sg,c1z nt (aft q.2.sg dst (D q.2.c).rs),a1K C (b2e P nt body res F (.md q.2.r q.2.k) (aft q.2.sg dst (D q.2.c).rs)) q.2.tr (pi0 (aft q.2.sg dst (D q.2.c).rs).tys q.2.sg.bl)with
   |true,true,true=>c8g P C D nt body res F l
   |_,_,_=>false
  |none=>false
def b4k:List Sh→Nat→Nat→List (Nat×SV)
 | [],_,_=>[]
 |.d _::l,t,j=>(t,.d j)::b4k l (t+1) (j+1)
 |.st ts::l,t,j=>(t,.st (List.range' j ts.length))::b4k l (t+1) (j+ts.length)
def d9Y(psh:List Sh):Sig:=⟨a0O psh,b4k psh 0 0,[]⟩
def b3V(P:Program)(C:Nat→Ct)(D:Nat→Cf)(fn:Func)(F:FnV):Bool:=match fn.body with
 |some body=>match Nat.ble fn.ntmps top,Nat.ble F.psh.length fn.ntmps,a7H (a2Q body),a1K C (b2e P fn.ntmps body fn.results.toList F .ent (d9Y F.psh)) F.ent (pi0 (a0O F.psh) [])with
  |true,true,true,true=>match c8h P C fn.ntmps body fn.results.toList F F.hd with
   |true=>c8g P C D fn.ntmps body fn.results.toList F F.md
   |false=>false
  |_,_,_,_=>false
 |none=>false
end
end Go.Ev
namespace Go.Ev
set_option linter.unusedVariables false
noncomputable section
open Go.RowKit
theorem d2j{bl:List BlS}{q:Nat×Int}(h:q∈bdL bl): ∃(i:Nat) (j jn:Nat) (ts:List Ty) (et:Option TypeId) (n:Nat),bl[i]? =some (.lst j jn ts et n)∧q=(j,(n:Int)):=by
 induction bl with
 |nil=>cases h
 |cons b l ih=>
  cases b with
  |cells c g ro et=>
   obtain⟨i,r⟩:=ih (by simpa only[bdL]using h)
   exact⟨i+1,by simpa using r⟩
  |lst j jn ts et n=>
   simp only[bdL]at h
   rcases List.mem_cons.1 h with rfl|h
   ·exact⟨0,j,jn,ts,et,n,rfl,rfl⟩
   ·obtain⟨i,r⟩:=ih h
    exact⟨i+1,by simpa using r⟩
theorem c9a{L:List Nat}{P:Program}{S:Nat→Prop}{nt:Nat}{sg:Sig}{σ:List G}{infs:List (Option Inf)}{we:World}{act:Act}{w:World}(k:HeadSt L nt sg σ infs we act w):PIok P S (a0d w (L++a3j infs)) σ [] (pi0 sg.tys sg.bl):=
 ⟨k.ty,k.mem,(fun f hf=>by cases hf),rfl,(fun q hq=>by cases hq),(fun q hq=>by cases hq),(fun q hq=>by cases hq),(fun q hq=>by
  obtain⟨i,j,jn,ts,et,n,h1,rfl⟩:=d2j hq
  rcases k.bl i _ h1 with⟨_,_,e⟩|⟨_,inf,es,_,e,hn,_⟩
  ·refine⟨getD_lt e (fun e=>by cases e), ?_⟩
   simp only
   rw[e]
   show((([]:List (List G)).length:Nat):Int)≤n
   simp
  ·refine⟨getD_lt e (fun e=>by cases e), ?_⟩
   simp only
   rw[e]
   show((es.length:Nat):Int)≤n
   omega),(fun q hq=>by cases hq)⟩
theorem b6q: ∀{ts:List Ty},c0e ts=true→ ∀t∈ts,b8v t=true
 | [],_,t,ht=>by cases ht
 |u::ts,h,t,ht=>by
  simp only[c0e]at h
  split at h
  ·rename_i h1
   rcases List.mem_cons.1 ht with rfl|ht
   ·exact h1
   ·exact b6q h t ht
  ·cases h
theorem c1f{p:Nat→Bool}: ∀{l:List Nat},b6A p l=true→ ∀x∈l,p x=true
 | [],_,x,hx=>by cases hx
 |y::l,h,x,hx=>by
  simp only[b6A]at h
  split at h
  ·rename_i h1
   rcases List.mem_cons.1 hx with rfl|hx
   ·exact h1
   ·exact c1f h x hx
  ·cases h
theorem b8W{nt:Nat}{sg:Sig}(h:c1z nt sg=true):sg.bl.length≤top∧ ∀q∈sg.tm,q.1<nt:=by
 unfold c1z at h
 split at h
 ·rename_i h1
  exact⟨Nat.le_trans (Nat.le_of_ble_eq_true h1) (by decide),fun q hq=>Nat.le_of_ble_eq_true (c1f h q.1 (List.mem_map.2 ⟨q,hq,rfl⟩))⟩
 ·cases h
theorem b4j: ∀{sh:List Sh} {t j:Nat} {q:Nat×SV},q∈b4k sh t j→q.1<t+sh.length
 | [],t,j,q,h=>by cases h
 |.d _::l,t,j,q,h=>by
  simp only[b4k]at h
  rcases List.mem_cons.1 h with rfl|h
  ·simp
  ·have:=b4j h
   simp only[List.length_cons]
   omega
 |.st ts::l,t,j,q,h=>by
  simp only[b4k]at h
  rcases List.mem_cons.1 h with rfl|h
  ·simp
  ·have:=b4j h
   simp only[List.length_cons]
   omega
theorem a9L{σ:List G}: ∀{n j:Nat},j+n≤σ.length→(List.range' j n).map (fun j=>(σ.getD j .d).val)=((σ.drop j).take n).map G.val
 |0,j,_=>by simp
 |n+1,j,h=>by
  have hj:j<σ.length:=by omega
  rw[List.range'_succ,List.map_cons,a9L (n:=n) (j:=j+1) (by omega),List.drop_eq_getElem_cons hj,List.take_succ_cons,List.map_cons,a0Y (List.getElem?_eq_getElem hj)]
theorem b1i{σ:List G}: ∀{n j:Nat},j+n≤σ.length→(List.range' j n).map (fun j=>σ.getD j .d)=(σ.drop j).take n
 |0,j,_=>by simp
 |n+1,j,h=>by
  have hj:j<σ.length:=by omega
  rw[List.range'_succ,List.map_cons,b1i (n:=n) (j:=j+1) (by omega),List.drop_eq_getElem_cons hj,List.take_succ_cons,a0Y (List.getElem?_eq_getElem hj)]
theorem a8B: ∀{sh:List Sh} {x:List G},(a4T sh x).length=sh.length
 | [],_=>rfl
 |.d _::l,x=>by simp[a4T,a8B (sh:=l)]
 |.st _::l,x=>by simp[a4T,a8B (sh:=l)]
theorem b9o{σ:List G}{tmps:Array Value}: ∀{sh:List Sh} {t j:Nat},j+(a0O sh).length≤σ.length→(∀i,i<sh.length→tmps.getD (t+i) undef=(a4T sh (σ.drop j)).getD i undef)→ ∀q∈b4k sh t j,svR σ [] q.2 (tmps.getD q.1 undef)
 | [],t,j,_,_,q,hq=>by cases hq
 |.d u::l,t,j,hl,h,q,hq=>by
  simp only[a0O,List.length_cons]at hl
  simp only[b4k]at hq
  rcases List.mem_cons.1 hq with rfl|hq
  ·have:=h 0 (by simp)
   simp only[Nat.add_zero]at this
   simp only[svR]
   rw[this]
   have hj:j<σ.length:=by omega
   have hd:(σ.drop j).headD .d=σ.getD j .d:=by
    rw[List.drop_eq_getElem_cons hj,List.headD_cons,a0Y (List.getElem?_eq_getElem hj)]
   simp only[a4T,hd]
   rfl
  ·refine b9o (sh:=l) (t:=t+1) (j:=j+1) (by omega) (fun i hi=> ?_) q hq
   have:=h (i+1) (by simp only[List.length_cons];omega)
   rw[show t+1+i=t+(i+1)by omega,this]
   simp only[a4T,List.tail_drop]
   rfl
 |.st ts::l,t,j,hl,h,q,hq=>by
  simp only[a0O,List.length_append]at hl
  simp only[b4k]at hq
  rcases List.mem_cons.1 hq with rfl|hq
  ·have:=h 0 (by simp)
   simp only[Nat.add_zero]at this
   simp only[svR]
   rw[this,a9L (by omega)]
   rfl
  ·refine b9o (sh:=l) (t:=t+1) (j:=j+ts.length) (by omega) (fun i hi=> ?_) q hq
   have:=h (i+1) (by simp only[List.length_cons];omega)
   rw[show t+1+i=t+(i+1)by omega,this]
   simp only[a4T,List.drop_drop]
   rfl
def c7f(inv:Nat→List G→Prop)(R:List G→Prop):Res→Prop
 |.goto t σ=>inv t σ
 |.ret l=>R l
def c2S(inv:Nat→List G→Prop)(mu:Nat→List G→Nat)(R:List G→Prop)(n:Nat):Res→Prop
 |.goto t σ=>inv t σ∧mu t σ<n
 |.ret l=>R l
def PlG(P:Program)(HD:Nat→Act→World→Prop)(Q:Exit→Act→World→Prop)(body:Code)(pl:Plc)(act:Act)(w:World):Prop:=match pl with
 |.ent=>body.wpIn (Fr none) 0 P Q act w
 |.lp t=> ∀c K,ctx t body 0 []=some (c,K)→At1 body (.loop c) t K→c.wpIn (Fr none) 0 P (a0X P HD Q (.lp c t::K)) act w
 |.md r k=> ∀ops K,a8z r body 0 []=some (ops,K)→KOB body K→wpOpsIn (Fr none) 0 P ⟨ops⟩ (a0X P HD Q K) (List.range' (k+1) (ops.length-(k+1))) act w
section
variable{L:List Nat}{P:Program}(hng:a4B P)(hm:P.follows .mixedOrders=true){C:Nat→Ct}(hC: ∀c,CtOK P (C c)){fn:Func}{body:Code}{F:FnV}{we:World}{Q:Exit→Act→World→Prop}{HD:Nat→Act→World→Prop}
include hng hm hC
theorem b4t(hL: ∀b∈L,b<we.heap.size)(hnt:fn.ntmps≤top)(hnd:(a2Q body).Nodup){sg:Sig}{tr:Vt}{pl:Plc}(htm:c1z fn.ntmps sg=true)(hchk:a1K C (b2e P fn.ntmps body fn.results.toList F pl sg) tr (pi0 sg.tys sg.bl)=true){σ:List G}{infs:List (Option Inf)}{act:Act}{w:World}(k:HeadSt L fn.ntmps sg σ infs we act w){Qr:Res→Prop}(hw:wp C tr σ Qr)
  (hbd: ∀t sg' tr' gs,a4i t F.hd=some (sg',tr')→Qr (.goto t gs)→d6k sg' gs)
  (hbm: ∀h e gs,a4i h F.md=some e→Qr (.goto h gs)→d6k e.sg gs)
  (hgo: ∀t sg' tr' gs infs' act' w',a4i t F.hd=some (sg',tr')→Qr (.goto t gs)→HeadSt L fn.ntmps sg' gs infs' we act' w'→HD t act' w'∧ ∀c' K',ctx t body 0 []=some (c',K')→(Code.loop c').wpIn (Fr none) 0 P (a0X P HD Q K') act' w')
  (hmi: ∀h e gs infs' act' w',a4i h F.md=some e→Qr (.goto h gs)→HeadSt L fn.ntmps e.sg gs infs' we act' w'→ ∀ops K',a8z e.r body 0 []=some (ops,K')→KOB body K'→wpOpsIn (Fr none) 0 P ⟨ops⟩ (a0X P HD Q K') (List.range' e.k (ops.length-e.k)) act' w')
  (hret: ∀x gs act' w',e0t x=true→Qr (.ret gs)→act'.defers= []→TyL (a0O F.rs) gs→GML (a0d w' L) gs→Anc we w'→(results fn act'.tmps).run P w'= .ok (b3D F.rs gs) w'→Q x.real act' w'):
  PlG P HD Q body pl act w:=by
 obtain⟨hbl,htm⟩:=b8W htm
 have hat0:AtB body body 0 []:=⟨fun t _ _=>rfl,fun r _=>rfl,hnd⟩
 have hlt: ∀b∈L++a3j infs,b<w.heap.size:=fun b hb=>by
  rcases List.mem_append.1 hb with hb|hb
  ·exact Nat.lt_of_lt_of_le (hL b hb) k.an.wk.size
  ·obtain⟨i,inf,hi,rfl⟩:=a1p.1 hb
   exact k.lt i inf hi
 obtain⟨t',p',τ,γ,us,l1,l2,l3,l4,l5⟩:=walk (P:=P) (S:=fun b=>b∈L++a3j infs) (w:=a0d w (L++a3j infs)) hC (fun a v hv=>(a6e hlt hv).1) tr hchk (c9a k) hw
 unfold b2e at l2
 have l4:p'.tys=sg.tys++us:=l4
 letI:Ext:=XK P p'.ke fun b=>b∈L++a3j infs
 have sim:=k.start hL (fun _=>Iff.rfl) hbl l3 l4
 have tr0:TR ⟨a7K infs,a2b (σ++τ) ([]++γ)⟩ (c8K fn.ntmps sg p'.bs) act.tmps:=c0o k.sz hnt fun q hq=>by
  obtain⟨q0,hq0,rfl⟩:=List.mem_map.1 hq
  exact⟨Nat.lt_of_lt_of_le (htm q0 hq0) hnt,b4c l3 l4 k.ty (k.tm q0 hq0)⟩
 have k0:RSG ⟨w,a7K infs⟩ (a0d w (L++a3j infs)) (· =a2b (σ++τ) ([]++γ)) fn.ntmps (c8K fn.ntmps sg p'.bs) (d2D sg p') act w:=⟨⟨a7K infs,a2b (σ++τ) ([]++γ)⟩,rfl,tr0,sim,.start,k.sz,k.df⟩
 have beh: ∀{a' H' act' w'},RSG ⟨w,a7K infs⟩ (a0d w (L++a3j infs)) (· =a2b (σ++τ) ([]++γ)) fn.ntmps a' H' act' w'→ ∃φ,e1T L P p' (fun b=>b∈L++a3j infs) infs (a2b (σ++τ) ([]++γ)) fn.ntmps w a' H' act' w' φ:=by
  rintro a' H' act' w' ⟨φ,k1,k2,k3,k4,k5,k6⟩
  exact⟨φ,k1,k2,k3,k4.wk,fun k hk hn=>k4.frame k hk hn,k4.pin,k4.own,k5,k6⟩
 have fin: ∀so:SegP,b0b P fn.results.toList F p' (some so) t'=true→GoP P ⟨w,a7K infs⟩ (a0d w (L++a3j infs)) (· =a2b (σ++τ) ([]++γ)) fn.ntmps body HD Q (d2D sg p') so:=by
  clear l2
  intro so l2
  cases so with
  |cut t a H=>
   intro act' w' _ kk
   obtain⟨φ,b⟩:=beh kk
   cases t'<;>try (simp[b0b]at l2;done)
   rename_i h' m xs
   simp only[b0b]at l2
   split at l2
   ·rename_i sg' tr' e1 e2
    have e3:=Nat.eq_of_beq_eq_true e1
    subst e3
    obtain⟨gs,infs',d1,d2⟩:=c5R k hL l3 b l2
    simp only[wp]at l5
    have hq:=a8v (Q:=fun l=>Qr (.goto t l)) xs l5 d1
    exact hgo t sg' tr' gs infs' act' w' e2 hq (d2 (hbd t sg' tr' gs e2 hq))
   ·cases l2
  |mid r kk2 a H=>
   intro act' w' _ kk ops K' hops hK'
   obtain⟨φ,b⟩:=beh kk
   cases t'<;>try (simp[b0b]at l2;done)
   rename_i h' m xs
   simp only[b0b]at l2
   split at l2
   ·rename_i e he
    split at l2
    ·rename_i e1 e2
     have e1:=Nat.eq_of_beq_eq_true e1
     have e2:=Nat.eq_of_beq_eq_true e2
     subst e1 e2
     obtain⟨gs,infs',d1,d2⟩:=c5R k hL l3 b l2
     simp only[wp]at l5
     have hq:=a8v (Q:=fun l=>Qr (.goto h' l)) xs l5 d1
     exact hmi h' e gs infs' act' w' he hq (d2 (hbm h' e gs he hq)) ops K' hops hK'
    ·cases l2
   ·cases l2
  |out x a H=>
   intro act' w' _ kk
   obtain⟨φ,b⟩:=beh kk
   cases t'<;>try (simp[b0b]at l2;done)
   rename_i xs
   simp only[b0b]at l2
   split at l2
   ·rename_i l e1 e2 e4
    split at l2
    ·rename_i e3
     obtain⟨gs,d1,d2,d3,d4,v,d5,d6⟩:=c7Z k hL l3 b e2 e3 l2 (b6q e4)
     simp only[wp]at l5
     subst d6
     exact hret x gs act' w' e1 (a8v (Q:=fun l=>Qr (.ret l)) xs l5 d1) b.df d2 d3 d4 d5
    ·cases l2
   ·cases l2
 cases pl with
 |ent=>
  show body.wpIn (Fr none) 0 P Q act w
  simp only[c7V]at l2
  cases hs:c0X P (rcK P p'.ke) (feK P p'.ke) fn.ntmps F.S F.O 1000 body 0 [] (c8K fn.ntmps sg p'.bs) (d2D sg p')with
  |none=>
   rw[hs]at l2
   simp[b0b]at l2
  |some so=>
   rw[hs]at l2
   have:=a1z (HD:=HD) (Q:=Q) hng trivial (e0n hng hm) (c5V hng hm) hnt (Nat.le_refl _) hat0 (show KOB body []from trivial) hs k0 (fin so l2)
   exact this
 |lp t=>
  intro c K hc hat
  simp only[c7V,hc]at l2
  have ht:t<0+nl body∨ ¬t<0+nl body:=Decidable.em _
  obtain⟨hb1,hb2⟩:AtB body (.loop c) t K∧KOB body K:=by
   rcases ht with ht|ht
   ·exact a7h hat0 trivial (Nat.zero_le _) ht hc
   ·exact absurd (a8l hc).2 ht
  cases hs:c0X P (rcK P p'.ke) (feK P p'.ke) fn.ntmps F.S F.O 1000 c (t+1) (.lp c t::K) (c8K fn.ntmps sg p'.bs) (d2D sg p')with
  |none=>
   rw[hs]at l2
   simp[b0b]at l2
  |some so=>
   rw[hs]at l2
   exact a1z (HD:=HD) (Q:=Q) hng trivial (e0n hng hm) (c5V hng hm) hnt (Nat.le_refl _) hb1.loop.2 (show KOB body (.lp c t::K)from hb2) hs k0 (fin so l2)
 |md r kk=>
  intro ops K hops hK
  simp only[c7V,hops]at l2
  cases hk1:Nat.ble (kk+1) ops.length with
  |false=>
   rw[hk1]at l2
   simp[b0b]at l2
  |true=>
   rw[hk1]at l2
   simp only at l2
   cases hs:d7K P (rcK P p'.ke) (feK P p'.ke) fn.ntmps F.S F.O 1000 r ops (kk+1) K (c8K fn.ntmps sg p'.bs) (d2D sg p')with
   |none=>
    rw[hs]at l2
    simp[b0b]at l2
   |some so=>
    rw[hs]at l2
    exact c2I (HD:=HD) (Q:=Q) hng trivial (e0n hng hm) (c5V hng hm) hnt (Nat.le_refl _) hops hK (Nat.le_of_ble_eq_true hk1) hs k0 (fin so l2)
end
end
end Go.Ev
namespace Go.Ev
set_option linter.unusedVariables false
noncomputable section
open Go.RowKit
theorem c7O(x:VV):c9N [] x=x:=by
 unfold c9N
 split
 ·rfl
 ·rfl
theorem c3x(xs:List VV):xs.map (c9N [])=xs:=by
 induction xs with
 |nil=>rfl
 |cons x xs ih=>rw[List.map_cons,ih,c7O]
theorem c0q{n:Nat}: ∀{js:List Nat},c7x n js=true→ ∀j∈js,j<n
 | [],_,j,hj=>by cases hj
 |i::js,h,j,hj=>by
  simp only[c7x]at h
  split at h
  ·rename_i h1
   rcases List.mem_cons.1 hj with rfl|hj
   ·exact a4h h1
   ·exact c0q h j hj
  ·cases h
theorem b8Z{σ us:List G}{infs:List (Option Inf)}{sv:SV}{v:Value}(h:d9W σ.length sv=true)(k:svR σ infs sv v):svR (σ++us) infs sv v:=by
 cases sv with
 |d j=>
  simp only[svR]at k ⊢
  rw[a0j (a4h h)]
  exact k
 |st js=>
  simp only[svR]at k ⊢
  rw[k]
  congr 2
  refine List.map_congr_left fun j hj=> ?_
  rw[a0j (c0q h j hj)]
 |p q o=>exact k
 |k x=>exact k
 |own q j jn=>
  rcases k with⟨k1,k2⟩|⟨k1,inf,es,k2,k3,k4⟩
  ·exact .inl ⟨by rw[a0j (getD_lt k1 fun e=>by cases e)];exact k1,k2⟩
  ·exact .inr ⟨by rw[a0j (getD_lt k1 fun e=>by cases e)];exact k1,inf,es,k2,by rw[a0j (getD_lt k3 fun e=>by cases e)];exact k3,k4⟩
 |tu sh j=>
  have hle:=Nat.le_of_ble_eq_true h
  have e:((List.range' j (a0O sh).length).map fun i=>(σ++us).getD i .d)=(List.range' j (a0O sh).length).map fun i=>σ.getD i .d:=by
   refine List.map_congr_left fun i hi=> ?_
   rw[List.mem_range'_1]at hi
   rw[a0j (by omega)]
  obtain⟨k1,k2⟩:=k
  show TyL _ _∧_
  rw[e]
  exact⟨k1,k2⟩
theorem b0n{n:Nat}: ∀{l:List SV},c2E n l=true→ ∀s∈l,d9W n s=true
 | [],_,s,hs=>by cases hs
 |a::l,h,s,hs=>by
  simp only[c2E]at h
  split at h
  ·rename_i h1
   rcases List.mem_cons.1 hs with rfl|hs
   ·exact h1
   ·exact b0n h s hs
  ·cases h
theorem b5x{n:Nat}: ∀{l:List BlS},c3A n l=true→ ∀(q:Nat) c g ro et,l[q]? =some (.cells c g ro et)→c2E n c=true
 | [],_,q,c,g,ro,et,hq=>by simp at hq
 |.cells c' g' ro' et'::l,h,q,c,g,ro,et,hq=>by
  simp only[c3A]at h
  split at h
  ·rename_i h1
   cases q with
   |zero=>
    simp only[List.getElem?_cons_zero,Option.some.injEq,BlS.cells.injEq]at hq
    obtain⟨rfl,_⟩:=hq
    exact h1
   |succ q=>exact b5x h q c g ro et (by simpa using hq)
  ·cases h
 |.lst _ _ _ _ _::l,h,q,c,g,ro,et,hq=>by
  simp only[c3A]at h
  cases q with
  |zero=>simp at hq
  |succ q=>exact b5x h q c g ro et (by simpa using hq)
theorem a9c{d:Nat}: ∀{l:List (Nat×SV)} {q:Nat×SV},q∈b7f d l→q∈l∧q.1≠d
 | [],q,h=>by cases h
 |a::l,q,h=>by
  simp only[b7f]at h
  split at h
  ·obtain⟨a1,a2⟩:=a9c h
   exact⟨List.mem_cons_of_mem _ a1,a2⟩
  ·rename_i h1
   rcases List.mem_cons.1 h with rfl|h
   ·refine⟨List.mem_cons_self,fun e=> ?_⟩
    rw[e,Nat.beq_refl]at h1
    cases h1
   ·obtain⟨a1,a2⟩:=a9c h
    exact⟨List.mem_cons_of_mem _ a1,a2⟩
theorem d1I{σ us:List G}{infs:List (Option Inf)}{rs:List Sh}(h:TyL (a0O rs) us):svR (σ++us) infs (d1J rs σ.length) (b3D rs us):=by
 have hl:=h.len
 unfold d1J
 split
 ·rename_i t
  match us,h with
  | [u],_=>
   simp only[svR,b5Q]
   rfl
  | [],h=>simp[a0O,TyL]at h
  |_::_::_,h=>simp[a0O,TyL]at h
 ·rename_i ts
  simp only[a0O,List.append_nil]at hl
  simp only[svR]
  rw[a9L (by rw[List.length_append];omega),List.drop_left]
  rfl
 ·rename_i h1 h2
  refine⟨?_, ?_⟩
  ·rw[b1i (by rw[List.length_append];omega),List.drop_left,List.take_of_length_le (by omega)]
   exact h
  ·rw[b1i (by rw[List.length_append];omega),List.drop_left,List.take_of_length_le (by omega)]
   unfold b3D
   have:(a4T rs us).length≠1:=by
    rw[a8B]
    intro e
    match rs,e with
    | [.d t],_=>exact h1 t rfl
    | [.st ts],_=>exact h2 ts rfl
   match hv:a4T rs us,this with
   | [],_=>rfl
   | [v],h=>simp at h
   |_::_::_,_=>rfl
section
variable{L:List Nat}{P:Program}(hng:a4B P){D:Nat→Cf}{nt:Nat}{body:Code}{we w:World}{act:Act}{σ:List G}{infs:List (Option Inf)}
include hng
theorem d2g(hL: ∀b∈L,b<we.heap.size)(hnt:nt≤top){e:MdE}{dst:Option Nat}(hc:b5s P D nt body e=some dst)(htm:c1z nt e.sg=true)(htm2:c1z nt (aft e.sg dst (D e.c).rs)=true)(hD:CfOK P (D e.c))(k:HeadSt L nt e.sg σ infs we act w)(hpre:(D e.c).pre (e.xs.map (gG σ))){ops:List Oper}{K:List Fr1}(hops:a8z e.r body 0 []=some (ops,K)){Q':Exit→Act→World→Prop}
  (hQ: ∀us act' w',(D e.c).post (e.xs.map (gG σ)) us→TyL (a0O (D e.c).rs) us→HeadSt L nt (aft e.sg dst (D e.c).rs) (σ++us) infs we act' w'→wpOpsIn (Fr none) 0 P ⟨ops⟩ Q' (List.range' (e.k+1) (ops.length-(e.k+1))) act' w'):
  wpOpsIn (Fr none) 0 P ⟨ops⟩ Q' (List.range' e.k (ops.length-e.k)) act w:=by
 obtain⟨hbl,htm⟩:=b8W htm
 obtain⟨_,htm2⟩:=b8W htm2
 unfold b5s at hc
 rw[hops]at hc
 simp only at hc
 split at hc
 ·rename_i o ho
  split at hc
  ·rename_i f args hg he
   split at hc
   ·rename_i e1 e2 e3
    split at hc
    ·rename_i e4 e5
     cases hc
     have e1:=Nat.eq_of_beq_eq_true e1
     have e2:=vvsEq_eq _ _ e2
     subst e1
     rw[a0T]at ho
     have hlt:=(List.getElem?_eq_some_iff.1 ho).1
     have er:List.range' e.k (ops.length-e.k)=e.k::List.range' (e.k+1) (ops.length-(e.k+1)):=by
      rw[show ops.length-e.k=(ops.length-(e.k+1))+1 by omega,List.range'_succ]
     rw[er]
     have p0:=c9a (P:=P) (S:=fun b=>b∈L++a3j infs) k
     have p1:PIok P (fun b=>b∈L++a3j infs) (a0d w (L++a3j infs)) (σ++ []) [] (pi0 e.sg.tys e.sg.bl):=by rw[List.append_nil];exact p0
     have e0:(pi0 e.sg.tys e.sg.bl).tys=e.sg.tys++ []:=by rw[List.append_nil];rfl
     letI:Ext:=XK P (pi0 e.sg.tys e.sg.bl).ke fun b=>b∈L++a3j infs
     have sim:=k.start hL (fun _=>Iff.rfl) hbl p1 e0
     have tr0:TR ⟨a7K infs,a2b (σ++ []) []⟩ (c8K nt e.sg []) act.tmps:=c0o k.sz hnt fun q hq=>by
      obtain⟨q0,hq0,rfl⟩:=List.mem_map.1 hq
      exact⟨Nat.lt_of_lt_of_le (htm q0 hq0) hnt,b4c (p:=pi0 e.sg.tys e.sg.bl) p1 e0 k.ty (k.tm q0 hq0)⟩
     have hs:=a6P (a6B hng tr0 sim o)
     rw[show(evE P o.op (c8K nt e.sg []) ⟨(pi0 e.sg.tys e.sg.bl).env,b3G (e.sg.bl.map (c9x (pi0 e.sg.tys e.sg.bl).bs e.sg.tys)) 0 .lf,e.sg.bl.length⟩).get= .enter (D e.c).f args from he]at hs
     obtain⟨vs,h1,h2⟩:=hs
     rw[e2,←c3x e.xs]at h2
     have hvs:=b0q (P:=P) (S:=fun b=>b∈L++a3j infs) (w:=w) (φ:=⟨a7K infs,a2b (σ++ []) []⟩) (σ:=σ++ []) (β:=[]) (bs:=[]) rfl p1.ty (fun q hq=>by cases hq) e3 h2
     rw[List.append_nil]at hvs
     obtain⟨ty,gm⟩:=b8t k.ty e3
     have hLw: ∀b∈L++a3j infs,b<w.heap.size:=fun b hb=>by
      rcases List.mem_append.1 hb with hb|hb
      ·exact Nat.lt_of_lt_of_le (hL b hb) k.an.wk.size
      ·obtain⟨i,inf,hi,rfl⟩:=a1p.1 hb
       exact k.lt i inf hi
     have hcall:=hD.ok w _ (L++a3j infs) hLw ty (gm _ k.mem) hpre
     have hget:(⟨ops⟩:Array Oper)[e.k]? =some o:=by simpa using ho
     simp only[wpOpsIn,hget]
     rw[if_pos (by simp[Region.wanted,hg])]
     refine⟨fun _ _=>trivial, ?_⟩
     show o.uponIn (Fr none) 0 P act _ Q' ((o.semAt none act.eval).run P w)
     rw[Oper.semAt_none,h1]
     refine⟨(fun h=>by cases h), ?_⟩
     rw[hvs]
     refine a4p.2 (hcall.mono ?_)
     rintro en w' ⟨us,u1,rfl,u3,u4,u5⟩
     refine hQ us _ w' u1 u3 ?_
     have hlen:e.sg.tys.length=σ.length:=k.ty.len.symm
     rw[hlen]at e4 e5
     have sub:Sub (a0d w (L++a3j infs)) (a0d w' (L++a3j infs)):=b4d (S:=fun b=>b∈L++a3j infs) hLw (fun b=>Iff.rfl) u5.size (fun q hq _=>u5.block q hq) fun q hq=>.inl hq
     refine⟨by rw[b6n];exact k.sz,by rw[b1m];exact k.df,fun q hq=> ?_,k.il,fun q b hq=> ?_,k.nd,k.ge,fun i inf hi=>Nat.lt_of_lt_of_le (k.lt i inf hi) u5.size,TyL.app k.ty u3,GML.app (k.mem.sub sub) u4,⟨⟨u5.os.trans k.an.wk.os,u5.tape.trans k.an.wk.tape,u5.output.trans k.an.wk.output,Nat.le_trans k.an.wk.size u5.size⟩,fun q hq=>by rw[u5.block q (Nat.lt_of_lt_of_le hq k.an.wk.size),k.an.old q hq]⟩⟩
     ·cases hd:o.dst with
      |none=>
       rw[hd]at hq
       exact b8Z (b0n e4 _ (List.mem_map.2 ⟨q,hq,rfl⟩)) (k.tm q hq)
      |some d=>
       rw[hd]at hq htm2
       rcases List.mem_cons.1 hq with rfl|hq
       ·rw[b6o (by rw[k.sz];exact htm2 (d,_) List.mem_cons_self),hlen]
        exact d1I u3
       ·obtain⟨q1,q2⟩:=a9c hq
        rw[b3j q2]
        exact b8Z (b0n e4 _ (List.mem_map.2 ⟨q,q1,rfl⟩)) (k.tm q q1)
     ·have hb:=k.bl q b hq
      cases b with
      |cells c g ro et=>
       obtain⟨inf,i1,c',e',fr,g1,g2,g3,g4,g5,g6⟩:=hb
       have hin:=b5x e5 q c g ro et hq
       exact⟨inf,i1,c',e',fr,by rw[u5.block _ (k.lt q inf i1)];exact g1,g2,g3,fun j sv hj=>by
        obtain⟨y,y1,y2⟩:=g4 j sv hj
        exact⟨y,y1,b8Z (b0n hin sv (List.mem_of_getElem? hj)) y2⟩,g5,g6⟩
      |lst j jn ts et n=>
       rcases hb with⟨a1,a2,a3⟩|⟨a1,inf,es,a2,a3,a4,c',e',fr,cs,g1,g2⟩
       ·exact .inl ⟨by rw[a0j (getD_lt a1 fun e=>by cases e)];exact a1,a2,by rw[a0j (getD_lt a3 fun e=>by cases e)];exact a3⟩
       ·exact .inr ⟨by rw[a0j (getD_lt a1 fun e=>by cases e)];exact a1,inf,es,a2,by rw[a0j (getD_lt a3 fun e=>by cases e)];exact a3,a4,c',e',fr,cs,by rw[u5.block _ (k.lt q inf a2)];exact g1,g2⟩
    ·cases hc
   ·cases hc
  ·cases hc
 ·cases hc
end
end
end Go.Ev
namespace Go.Ev
set_option linter.unusedVariables false
noncomputable section
open Go.RowKit
theorem c1h{P:Program}{C:Nat→Ct}{nt:Nat}{body:Code}{res:List ResultVar}{F:FnV}: ∀{l:List (Nat×Sig×Vt)},c8h P C nt body res F l=true→ ∀q∈l,c1z nt q.2.1=true∧a1K C (b2e P nt body res F (.lp q.1) q.2.1) q.2.2 (pi0 q.2.1.tys q.2.1.bl)=true
 | [],_,q,hq=>by cases hq
 |x::l,h,q,hq=>by
  simp only[c8h]at h
  split at h
  ·rename_i d1 d2
   rcases List.mem_cons.1 hq with rfl|hq
   ·exact⟨d1,d2⟩
   ·exact c1h h q hq
  ·cases h
theorem c1g{P:Program}{C:Nat→Ct}{D:Nat→Cf}{nt:Nat}{body:Code}{res:List ResultVar}{F:FnV}: ∀{l:List (Nat×MdE)},c8g P C D nt body res F l=true→ ∀q∈l,∃dst,b5s P D nt body q.2=some dst∧c1z nt q.2.sg=true∧c1z nt (aft q.2.sg dst (D q.2.c).rs)=true∧a1K C (b2e P nt body res F (.md q.2.r q.2.k) (aft q.2.sg dst (D q.2.c).rs)) q.2.tr (pi0 (aft q.2.sg dst (D q.2.c).rs).tys q.2.sg.bl)=true
 | [],_,q,hq=>by cases hq
 |x::l,h,q,hq=>by
  simp only[c8g]at h
  split at h
  ·rename_i dst hd
   split at h
   ·rename_i d1 d2 d3
    rcases List.mem_cons.1 hq with rfl|hq
    ·exact⟨dst,hd,d1,d2,d3⟩
    ·exact c1g h q hq
   ·cases h
  ·cases h
section
variable{P:Program}(hng:a4B P)(hm:P.follows .mixedOrders=true){C:Nat→Ct}(hC: ∀c,CtOK P (C c)){D:Nat→Cf}(hD: ∀c,CfOK P (D c)){fn:Func}{F:FnV}
include hng hm hC hD
theorem a4J{f:FuncId}(hf:P.funcs[f]? =some fn)(hchk:b3V P C D fn F=true)(inv:Nat→List G→Prop)(mu:Nat→List G→Nat)(R:List G→Prop){gs0:List G}
  (h0:wp C F.ent gs0 (c7f inv R))
  (hbd: ∀q∈F.hd,∀σ,inv q.1 σ→d6k q.2.1 σ)
  (hbm: ∀q∈F.md,∀σ,inv q.1 σ→d6k q.2.sg σ)
  (hh: ∀q∈F.hd,∀σ,TyL q.2.1.tys σ→inv q.1 σ→wp C q.2.2 σ (c2S inv mu R (mu q.1 σ)))
  (hd: ∀q∈F.md,∀σ,TyL q.2.sg.tys σ→inv q.1 σ→(D q.2.c).pre (q.2.xs.map (gG σ))∧ ∀us,(D q.2.c).post (q.2.xs.map (gG σ)) us→TyL (a0O (D q.2.c).rs) us→wp C q.2.tr (σ++us) (c2S inv mu R (mu q.1 σ)))
  {w:World} {L:List Nat} (hL: ∀b∈L,b<w.heap.size) (ty0:TyL (a0O F.psh) gs0) (m0:GML (a0d w L) gs0):Calls P f ⟨a4T F.psh gs0⟩ w fun e w'=> ∃gs,R gs∧e= .returned (b3D F.rs gs)∧TyL (a0O F.rs) gs∧GML (a0d w' L) gs∧Below w.heap.size w w':=by
 unfold b3V at hchk
 split at hchk
 ·rename_i body hb
  split at hchk
  ·rename_i c1 c2 c3 c4
   split at hchk
   ·rename_i c5
    have hnt:=Nat.le_of_ble_eq_true c1
    have hps:=Nat.le_of_ble_eq_true c2
    have hnd:=b1t c3
    have hallH:=c1h c5
    have hallM:=c1g hchk
    let Q:Exit→Act→World→Prop:=fun e act' w'=>(e= .ret∨e= .normal)∧act'.defers= []∧ ∃v,(results fn act'.tmps).run P w'= .ok v w'∧ ∃gs,R gs∧Ending.returned v= .returned (b3D F.rs gs)∧TyL (a0O F.rs) gs∧GML (a0d w' L) gs∧Below w.heap.size w w'
    have hret: ∀{Qr:Res→Prop},(∀l,Qr (.ret l)→R l)→ ∀x gs act' w',e0t x=true→Qr (.ret gs)→act'.defers= []→TyL (a0O F.rs) gs→GML (a0d w' L) gs→Anc w w'→(results fn act'.tmps).run P w'= .ok (b3D F.rs gs) w'→Q x.real act' w':=by
     intro Qr hQ x gs act' w' hx hq hd ht hg an hr
     refine⟨?_,hd,_,hr,gs,hQ gs hq,rfl,ht,hg,⟨an.wk.os,an.wk.tape,an.wk.output,an.wk.size,an.old⟩⟩
     cases x with
     |ret=>exact .inl rfl
     |normal=>exact .inr rfl
     |exit e=>cases hx
    let I:Nat→Nat→Act→World→Prop:=fun k t act' w'=> ∃sg tr σ infs,a4i t F.hd=some (sg,tr)∧inv t σ∧mu t σ=k∧HeadSt L fn.ntmps sg σ infs w act' w'
    have mids: ∀(HD:Nat→Act→World→Prop) (Ok:Nat→Prop),(∀a b,a<b→Ok b→Ok a)→(∀t' act' w',(∃j,Ok j∧I j t' act' w')→HD t' act' w'∧ ∀c' K',ctx t' body 0 []=some (c',K')→(Code.loop c').wpIn (Fr none) 0 P (a0X P HD Q K') act' w')→
      ∀n,Ok n→ ∀h e gs infs' act' w',a4i h F.md=some e→inv h gs→mu h gs=n→HeadSt L fn.ntmps e.sg gs infs' w act' w'→ ∀ops K',a8z e.r body 0 []=some (ops,K')→KOB body K'→wpOpsIn (Fr none) 0 P ⟨ops⟩ (a0X P HD Q K') (List.range' e.k (ops.length-e.k)) act' w':=by
     intro HD Ok hdn hHD n
     induction n using Nat.strongRecOn with
     |_ n ih=>
      intro hok h e gs infs' act' w' he hi hmu hst ops K' hops hK
      have hem:=a0n he
      obtain⟨dst,m1,m2,m3,m4⟩:=hallM _ hem
      obtain⟨q1,q2⟩:=hd _ hem gs hst.ty hi
      subst hmu
      refine d2g hng hL hnt m1 m2 m3 (hD e.c) hst q1 hops fun us act2 w2 u1 u2 u3=> ?_
      have:=b4t hng hm hC (HD:=HD) (Q:=Q) (F:=F) hL hnt hnd (pl:=.md e.r e.k) m3 m4 u3 (q2 us u1 u2)
       (fun t' sg' tr' gs' e1 e2=>hbd _ (a0n e1) gs' e2.1) (fun h' e' gs' e1 e2=>hbm _ (a0n e1) gs' e2.1)
       (fun t' sg' tr' gs' infs2 act3 w3 e1 e2 e3=>hHD t' act3 w3 ⟨mu t' gs',hdn _ _ e2.2 hok,sg',tr',gs',infs2,e1,e2.1,rfl,e3⟩)
       (fun h' e' gs' infs2 act3 w3 e1 e2 e3=>ih (mu h' gs') e2.2 (hdn _ _ e2.2 hok) h' e' gs' infs2 act3 w3 e1 e2.1 rfl e3)
       (hret (Qr:=c2S inv mu R (mu h gs)) fun l hl=>hl)
      exact this ops K' hops hK
    have heads: ∀k t act w',I k t act w'→ ∀c K,ctx t body 0 []=some (c,K)→At1 body (.loop c) t K→KOK body K→ ∀HD:Nat→Act→World→Prop,(∀t' act' w',(∃j,j<k∧I j t' act' w')→HD t' act' w'∧ ∀c' K',ctx t' body 0 []=some (c',K')→(Code.loop c').wpIn (Fr none) 0 P (a0X P HD Q K') act' w')→
      c.wpIn (Fr none) 0 P (a0X P HD Q (.lp c t::K)) act w':=by
     rintro k t act w' ⟨sg,tr,σ,infs,g1,g2,rfl,g4⟩ c K hc hat hko HD hHD
     obtain⟨a1,a3⟩:=hallH _ (a0n g1)
     have:=b4t hng hm hC (HD:=HD) (Q:=Q) (F:=F) hL hnt hnd (pl:=.lp t) a1 a3 g4 (hh _ (a0n g1) σ g4.ty g2)
      (fun t' sg' tr' gs' e1 e2=>hbd _ (a0n e1) gs' e2.1) (fun h' e' gs' e1 e2=>hbm _ (a0n e1) gs' e2.1)
      (fun t' sg' tr' gs infs' act' w'' e1 e2 e3=>hHD t' act' w'' ⟨mu t' gs,e2.2,sg',tr',gs,infs',e1,e2.1,rfl,e3⟩)
      (fun h' e' gs' infs2 act3 w3 e1 e2 e3=>mids HD (fun j=>j<mu t σ) (fun a b h1 h2=>Nat.lt_trans h1 h2) hHD (mu h' gs') e2.2 h' e' gs' infs2 act3 w3 e1 e2.1 rfl e3)
      (hret (Qr:=c2S inv mu R (mu t σ)) fun l hl=>hl)
     exact this c K hc hat
    have all: ∀t' act' w',(∃j,True∧I j t' act' w')→(∃j,I j t' act' w')∧ ∀c' K',ctx t' body 0 []=some (c',K')→(Code.loop c').wpIn (Fr none) 0 P (a0X P (fun t act w=> ∃j,I j t act w) Q K') act' w':=by
     rintro t' act' w' ⟨j,_,hi⟩
     refine⟨⟨j,hi⟩,fun c' K' hc'=> ?_⟩
     refine wpIn_mono (b5M heads j t' c' K' hc' j (Nat.le_refl _) act' w' ⟨_,Nat.le_refl _,hi⟩) ?_
     exact a2B (fun n act w ⟨j,_,h⟩=>⟨j,h⟩) K'
    refine a5N hf hb ?_
    generalize hact:({tmps:=(⟨a4T F.psh gs0⟩:Array Value)++Array.replicate (fn.ntmps-(⟨a4T F.psh gs0⟩:Array Value).size) undef,defers:=[]}:Act)=act0
    have hsz:act0.tmps.size=fn.ntmps:=by
     subst hact
     simp only[Array.size_append,Array.size_replicate,List.size_toArray,a8B]
     omega
    have hdf:act0.defers= []:=by subst hact;rfl
    have htm: ∀i,i<F.psh.length→act0.tmps.getD (0+i) undef=(a4T F.psh (gs0.drop 0)).getD i undef:=fun i hi=>by
     subst hact
     rw[Nat.zero_add,List.drop_zero,Array.getD_eq_getD_getElem?,Array.getElem?_append_left (by simp[a8B];exact hi),List.getD_eq_getElem?_getD]
     simp
    have k0:HeadSt L fn.ntmps (d9Y F.psh) gs0 [] w act0 w:=⟨hsz,hdf,b9o (by rw[ty0.len];omega) htm,rfl,(fun q b hq=>by cases hq),(fun i j inf jnf h=>by cases h),(fun i inf hi=>by cases hi),(fun i inf hi=>by cases hi),ty0,(by show GML (a0d w (L++ [])) gs0;rw[List.append_nil];exact m0),.refl w⟩
    have tl0:c1z fn.ntmps (d9Y F.psh)=true:=by
     have: ∀l:List Nat,(∀x∈l,x<fn.ntmps)→b6A (fun t=>Nat.blt t fn.ntmps) l=true:=by
      intro l
      induction l with
      |nil=>intro _;rfl
      |cons x l ih=>
       intro h
       simp only[b6A,c8e (h x List.mem_cons_self)]
       exact ih fun y hy=>h y (List.mem_cons_of_mem _ hy)
     unfold c1z
     show(match Nat.ble 0 1000 with|true=>_|false=>false)=true
     refine this _ fun x hx=> ?_
     obtain⟨q,hq,rfl⟩:=List.mem_map.1 hx
     have:=b4j hq
     omega
    have key:=b4t hng hm hC (HD:=fun t act' w'=> ∃j,I j t act' w') (Q:=Q) (F:=F) hL hnt hnd (pl:=.ent) tl0 c4 k0 h0
     (fun t' sg' tr' gs' e1 e2=>hbd _ (a0n e1) gs' e2) (fun h' e' gs' e1 e2=>hbm _ (a0n e1) gs' e2)
     (fun t' sg' tr' gs infs' act' w'' e1 e2 e3=>all t' act' w'' ⟨mu t' gs,trivial,sg',tr',gs,infs',e1,e2,rfl,e3⟩)
     (fun h' e' gs' infs2 act3 w3 e1 e2 e3=>mids _ (fun _=>True) (fun _ _ _ _=>trivial) all (mu h' gs') trivial h' e' gs' infs2 act3 w3 e1 e2 rfl e3)
     (hret (Qr:=c7f inv R) fun l hl=>hl)
    exact key
   ·cases hchk
  ·cases hchk
 ·cases hchk
end
end
end Go.Ev
namespace Go.Ev
set_option linter.unusedVariables false
noncomputable section
open Go.RowKit
theorem tyC{t:Ty}{ts:List Ty}{gs:List G}(h:TyL (t::ts) gs): ∃g l,gs=g::l∧TyOK t g∧TyL ts l:=by
 cases gs with
 |nil=>simp only[TyL]at h
 |cons g l=>
  simp only[TyL]at h
  exact⟨g,l,rfl,h.1,h.2⟩
theorem tyN{gs:List G}(h:TyL [] gs):gs= []:=by
 cases gs with
 |nil=>rfl
 |cons g l=>simp only[TyL]at h
theorem tyI{k:IntKind}{g:G}(h:TyOK (.i k) g): ∃n,g= .i k n∧k.min≤n∧n≤k.max:=by
 cases g<;>simp only[TyOK]at h
 obtain⟨rfl,h1,h2⟩:=h
 exact⟨_,rfl,h1,h2⟩
theorem a1y{g:G}(h:TyOK (.i .i64) g): ∃n,g= .i .i64 n∧ -9223372036854775808≤n∧n≤9223372036854775807:=tyI h
theorem d9S{g:G}(h:TyOK (.i .u64) g): ∃n,g= .i .u64 n∧0≤n∧n≤18446744073709551615:=tyI h
theorem tyB{g:G}(h:TyOK .b g): ∃b,g= .b b:=by
 cases g<;>simp only[TyOK]at h
 exact⟨_,rfl⟩
theorem tyS{g:G}(h:TyOK .s g): ∃s,g= .s s∧s.size≤9223372036854775807:=by
 cases g<;>simp only[TyOK]at h
 exact⟨_,rfl,by omega⟩
theorem c1y{ts:List Ty}{g:G}(h:TyOK (.l ts) g): ∃v es,g= .l v es∧TyLL ts es∧es.length≤9223372036854775807:=by
 cases g<;>simp only[TyOK]at h
 exact⟨_,_,rfl,h.1,by omega⟩
theorem a0E{k:IntKind}{n:Int}:(G.i k n).int=n:=rfl
theorem a0W{s:ByteArray}:(G.s s).str=s:=rfl
theorem a1d{b:Bool}:(G.b b).bool=b:=rfl
theorem a2J{v:Value}{es:List (List G)}:(G.l v es).es=es:=rfl
theorem a6r{es:List (List G)}:(G.w es).es=es:=rfl
theorem a0v{v:Value}{es:List (List G)}:(G.l v es).len=es.length:=rfl
theorem a1E{v:Value}{es:List (List G)}{i:Int}:d2R (.l v es) i=es.getD i.toNat []:=rfl
theorem TyLL.getD{ts:List Ty}{es:List (List G)}{i:Nat}(h:TyLL ts es)(hi:i<es.length):TyL ts (es.getD i []):=
 TyLL.at h (by rw[List.getD_eq_getElem?_getD,List.getElem?_eq_getElem hi];rfl)
theorem a0t{σ:List G}:d1e σ none= []:=rfl
theorem a1A{σ:List G}{j:Nat}:d1e σ (some j)=(σ.getD j .d).es:=rfl
theorem c6J{k:IntKind}{a b:Int}:aop .add k a b=some (k.wrap (a+b)):=rfl
theorem a4z{inv:Nat→List G→Prop}{R:List G→Prop}{t:Nat}{σ:List G}:c7f inv R (.goto t σ)=inv t σ:=rfl
theorem b8l{inv:Nat→List G→Prop}{R:List G→Prop}{σ:List G}:c7f inv R (.ret σ)=R σ:=rfl
theorem a2t{inv:Nat→List G→Prop}{mu:Nat→List G→Nat}{R:List G→Prop}{n t:Nat}{σ:List G}:c2S inv mu R n (.goto t σ)=(inv t σ∧mu t σ<n):=rfl
theorem a4O{inv:Nat→List G→Prop}{mu:Nat→List G→Nat}{R:List G→Prop}{n:Nat}{σ:List G}:c2S inv mu R n (.ret σ)=R σ:=rfl
theorem c3N{n:Int}(h0: -9223372036854775808≤n)(h1:n≤9223372036854775807):IntKind.i64.wrap n=n:=by
 rw[IntKind.wrap_i64]
 omega
theorem a3t(x:List G):x.headD .d=x.getD 0 .d:=by cases x<;>rfl
theorem a3s(x:List G)(n:Nat):x.tail.getD n .d=x.getD (n+1) .d:=by cases x<;>simp
theorem a1H{n:Nat}(h:n≤9223372036854775806):IntKind.i64.wrap ((n:Int)+1)=((n+1:Nat):Int):=by
 rw[c3N (by omega) (by omega)]
 omega
def Cs(l:List Ct):Nat→Ct:=fun c=>l.getD c ⟨0,[],[],fun _=>False,fun _=>[]⟩
theorem b7z{P:Program}{l:List Ct}(h: ∀c∈l,CtOK P c)(c:Nat):CtOK P (Cs l c):=by
 unfold Cs
 rw[List.getD_eq_getElem?_getD]
 rcases Nat.lt_or_ge c l.length with hc|hc
 ·rw[List.getElem?_eq_getElem hc]
  exact h _ (List.getElem_mem hc)
 ·rw[List.getElem?_eq_none hc]
  exact⟨rfl,fun _ _ h=>False.elim h,fun _ _ _ _ h=>False.elim h⟩
def Ds(l:List Cf):Nat→Cf:=fun c=>l.getD c ⟨0,[],[],fun _=>False,fun _ _=>False⟩
theorem b7y{P:Program}{l:List Cf}(h: ∀c∈l,CfOK P c)(c:Nat):CfOK P (Ds l c):=by
 unfold Ds
 rw[List.getD_eq_getElem?_getD]
 rcases Nat.lt_or_ge c l.length with hc|hc
 ·rw[List.getElem?_eq_getElem hc]
  exact h _ (List.getElem_mem hc)
 ·rw[List.getElem?_eq_none hc]
  exact⟨(fun t ht=>by cases ht),fun _ _ _ _ _ _ h=>False.elim h⟩
section
variable{C:Nat→Ct}{k:IntKind}{x y lo hi i:VV}{t f:Vt}{σ:List G}{Q:Res→Prop}{ts:List Ty}
theorem a9v(h:wp C t (σ++ [.i k (k.wrap ((gG σ x).int+(gG σ y).int))]) Q):wp C (.bin .add k x y t) σ Q:=⟨_,rfl,h⟩
theorem a4N(h:wp C t (σ++ [.i k (k.wrap (gG σ x).int)]) Q):wp C (.conv k x t) σ Q:=h
theorem a9t(h:(gG σ x).int<(gG σ y).int→wp C t σ Q)(g:(gG σ y).int≤(gG σ x).int→wp C f σ Q):wp C (.lss x y t f) σ Q:=⟨h,g⟩
theorem c0F(h:(gG σ x).int=(gG σ y).int→wp C t σ Q)(g:(gG σ x).int≠(gG σ y).int→wp C f σ Q):wp C (.eql x y t f) σ Q:=⟨h,g⟩
theorem c9A(h:(gG σ x).str=(gG σ y).str→wp C t σ Q)(g:(gG σ x).str≠(gG σ y).str→wp C f σ Q):wp C (.eqs x y t f) σ Q:=⟨h,g⟩
theorem c7B{j:Nat}(h:(σ.getD j .d).bool=true→wp C t σ Q)(g:(σ.getD j .d).bool=false→wp C f σ Q):wp C (.fb j t f) σ Q:=⟨h,g⟩
theorem a3k(h:wp C t (σ++ [.i .i64 (gG σ x).len]) Q):wp C (.len x t) σ Q:=h
theorem a9B(h:wp C t (σ++ [.i .i64 (gG σ x).str.size]) Q):wp C (.slen x t) σ Q:=h
theorem a9u(h0:0≤(gG σ i).int)(h1:(gG σ i).int<(gG σ x).len)(h:wp C t (σ++a1M ts.length (d2R (gG σ x) (gG σ i).int)) Q):wp C (.elt x i ts t) σ Q:=⟨h0,h1,h⟩
theorem c0G(h0:(((gG σ x).str++(gG σ y).str).size:Int)≤9223372036854775807)(h:wp C t (σ++ [.s ((gG σ x).str++(gG σ y).str)]) Q):wp C (.cat x y t) σ Q:=⟨h0,h⟩
theorem a2H{c:Nat}{xs:List VV}(h0:(C c).pre (xs.map (gG σ)))(h:wp C t (σ++(C c).post (xs.map (gG σ))) Q):wp C (.call c xs t) σ Q:=⟨h0,h⟩
theorem d4S(h:wp C t (σ++ [.i k (if(gG σ y).int<(gG σ x).int then(gG σ y).int else(gG σ x).int)]) Q):wp C (.mn k x y t) σ Q:=h
theorem c3Z(h0:0≤(gG σ lo).int)(h1:(gG σ lo).int≤(gG σ hi).int)(h2:(gG σ hi).int≤(gG σ x).str.size)(h:wp C t (σ++ [.s ((gG σ x).str.extract (gG σ lo).int.toNat (gG σ hi).int.toNat)]) Q):wp C (.sub x lo hi t) σ Q:=⟨h0,h1,h2,h⟩
theorem d4T{lo hi:Option VV}(h0:0≤a0f σ 0 lo)(h1:a0f σ 0 lo≤a0f σ (gG σ x).len hi)(h2:a0f σ (gG σ x).len hi≤(gG σ x).len)
  (h:wp C t (σ++ [.l (cutV ts.length (gG σ x).val (a0f σ 0 lo) (a0f σ (gG σ x).len hi)) (((gG σ x).es.drop (a0f σ 0 lo).toNat).take ((a0f σ (gG σ x).len hi).toNat-(a0f σ 0 lo).toNat))]) Q):wp C (.cut ts x lo hi t) σ Q:=⟨h0,h1,h2,h⟩
theorem a2G{h:Nat}{m:List (Option Nat)}{xs:List GE}(g:a4s σ xs fun l=>Q (.goto h l)):wp C (.goto h m xs) σ Q:=g
theorem a7B{xs:List GE}(g:a4s σ xs fun l=>Q (.ret l)):wp C (.ret xs) σ Q:=g
end
end
end Go.Ev
namespace Go.Ev
set_option linter.unusedVariables false
noncomputable section
open Go.RowKit
def b3J(f:TypeId→Ty→Bool):List TypeId→List Ty→Bool
 | [],[]=>true
 |t::l,u::us=>match f t u with
  |true=>b3J f l us
  |false=>false
 |_,_=>false
def a7J(P:Program):Nat→TypeId→Ty→Bool
 |0,_,_=>false
 |d+1,t,.i k=>match P.underlying t with
  |some (.int k')=>c8G k' k
  |_=>false
 |d+1,t,.b=>match P.underlying t with
  |some .bool=>true
  |_=>false
 |d+1,t,.s=>match P.underlying t with
  |some .string=>true
  |_=>false
 |d+1,t,.l ts=>match P.underlying t with
  |some (.slice e)=>match b2L P 9 e with
   |some (a::l)=>b3J (a7J P d) (a::l) ts
   |_=>false
  |_=>false
 |_,_,_=>false
section
variable{H:Type}{enc:TypeId×Value→H}{P:Program}{w:World}
def c1k(enc:TypeId×Value→H)(P:Program)(w:World)(f:TypeId→Ty→Bool):Prop:=
 ∀t u v n y,f t u=true→DataW.trod enc P w 0 (fun _=>true) true n t [v]=some y→ ∃g,g.val=v∧TyOK u g∧GM w g
theorem b7F{f:TypeId→Ty→Bool}: ∀{l:List TypeId} {us:List Ty},b3J f l us=true→l.length=us.length
 | [],[],_=>rfl
 | [],_::_,h=>by simp[b3J]at h
 |_::_,[],h=>by simp[b3J]at h
 |t::l,u::us,h=>by
  simp only[b3J]at h
  split at h
  ·simp[b7F h]
  ·cases h
theorem c0u{f:TypeId→Ty→Bool}(hf:c1k enc P w f): ∀{l:List TypeId} {us:List Ty} {cs:List Value},b3J f l us=true→LeavesOK enc P w 0 (fun _=>true) true l cs→ ∃gs,gs.map G.val=cs∧TyL us gs∧GML w gs
 | [],[],cs,_,hl=>⟨[],(List.eq_nil_of_length_eq_zero hl.1).symm,trivial,trivial⟩
 | [],_::_,_,h,_=>by simp[b3J]at h
 |_::_,[],_,h,_=>by simp[b3J]at h
 |t::l,u::us,cs,h,hl=>by
  simp only[b3J]at h
  split at h
  ·rename_i h1
   match cs,hl with
   | [],hl=>cases hl.1
   |c::cs,hl=>
    obtain⟨v,n,y,e,ht⟩:=hl.2 0 t rfl
    cases e
    obtain⟨g,g1,g2,g3⟩:=hf _ _ _ _ _ h1 ht
    obtain⟨gs,k1,k2,k3⟩:=c0u hf h (cs:=cs) ⟨by simpa using hl.1,fun j t' hj=>hl.2 (j+1) t' (by simpa using hj)⟩
    exact⟨g::gs,by simp[g1,k1],⟨g2,k2⟩,⟨g3,k3⟩⟩
  ·cases h
theorem b7E: ∀d,c1k enc P w (a7J P d)
 |0=>fun t u v n y h _=>by simp[a7J]at h
 |d+1=>fun t u v n y h ht=>by
  cases u with
  |i k=>
   simp only[a7J]at h
   split at h
   ·rename_i k' hu
    rw[d5r h]at hu
    obtain⟨z,e,_,hw⟩:=DataW.trod_int hu ht
    simp only[List.cons.injEq,and_true]at e
    subst e
    simp only[Lit.wf,Bool.and_eq_true,decide_eq_true_eq]at hw
    exact⟨.i k z,rfl,⟨rfl,hw.1,hw.2⟩,by simp only[GM]⟩
   ·cases h
  |b=>
   simp only[a7J]at h
   split at h
   ·rename_i hu
    obtain⟨z,e,_⟩:=DataW.trod_bool hu ht
    simp only[List.cons.injEq,and_true]at e
    subst e
    exact⟨.b z,rfl,trivial,by simp only[GM]⟩
   ·cases h
  |s=>
   simp only[a7J]at h
   split at h
   ·rename_i hu
    obtain⟨z,e,_,hs⟩:=DataW.trod_string hu ht
    simp only[List.cons.injEq,and_true]at e
    subst e
    refine⟨.s z,rfl, ?_,by simp only[GM]⟩
    simp only[TyOK]
    unfold maxLen at hs
    omega
   ·cases h
  |o=>simp[a7J]at h
  |w ts=>simp[a7J]at h
  |l ts=>
   simp only[a7J]at h
   split at h
   ·rename_i e hu
    split at h
    ·rename_i a l hfl
     have hlen:=b7F h
     have hce:P.cellsOf e=ts.length:=by rw[a5E hfl,hlen]
     have hpos:0<ts.length:=by rw[←hlen];simp
     rcases Go.Deep.open_slice hu ht with⟨hs,_⟩|⟨ad,len,cap,m,n',DD,Pl,hs,_,hl,hc,hmm,_,hall⟩
     ·simp only[List.cons.injEq,and_true]at hs
      subst hs
      refine⟨.l (.slice none 0 0) [],rfl,⟨trivial,by decide,none,0,rfl,Nat.le_refl _⟩, ?_⟩
      simp only[GM]
      exact⟨none,0,rfl,.inl ⟨trivial,.inl rfl⟩⟩
     ·simp only[List.cons.injEq,and_true]at hs
      subst hs
      simp only[if_true]at hmm
      subst hmm
      have hcl:(m:Int)≤9223372036854775807:=by unfold maxLen at hc;omega
      rcases Nat.eq_zero_or_pos m with h0|h0
      ·subst h0
       obtain rfl:len=0:=by omega
       refine⟨.l (.slice (some ad) 0 0) [],rfl,⟨trivial,by decide,some ad,0,rfl,Nat.le_refl _⟩, ?_⟩
       simp only[GM]
       exact⟨some ad,0,rfl,.inl ⟨trivial,.inr rfl⟩⟩
      ·have each: ∀i,∃gs:List G,i<m→TyL ts gs∧GML w gs∧ ∀j g,gs[j]? =some g→w.cell? ((ad.add (i*ts.length)).add j)=some g.val:=fun i=>by
        by_cases hi:i<m
        ·obtain⟨cs',h1,h2⟩:=hall i hi
         obtain⟨_,c2,c3⟩:=World.cells?_some h1
         obtain⟨gs,k1,k2,k3⟩:=c0u (b7E d) h (b1z hfl h2)
         refine⟨gs,fun _=>⟨k2,k3,fun j g hg=> ?_⟩⟩
         have hj:j<gs.length:=(List.getElem?_eq_some_iff.1 hg).1
         have hj2:j<P.cellsOf e:=by rw[hce,←k2.len];exact hj
         rw[hce]at c3
         rw[c3 j (by rw[←hce];exact hj2),←k1,List.getElem?_map,hg]
         rfl
        ·exact⟨[],fun h=>absurd h hi⟩
       obtain⟨f,hf⟩:=Classical.skolem.1 each
       obtain⟨f1,f2,f3⟩:=hf 0 h0
       have hg0: ∃g,(f 0)[0]? =some g:=⟨_,List.getElem?_eq_getElem (by rw[f1.len];exact hpos)⟩
       obtain⟨g0,hg0⟩:=hg0
       have hcell:=f3 0 g0 hg0
       have hsp:=World.cell?_spot hcell
       obtain⟨B,O,spot⟩:=ad
       have hspot:spot=none:=by simpa[Addr.add]using hsp
       subst hspot
       have hadd: ∀i j,((⟨B,O,none⟩:Addr).add i).add j=⟨B,O+i+j,none⟩:=fun i j=>by rw[Addr.add_lit,Addr.add_lit]
       have hB:B<w.heap.size:=by
        rw[hadd]at hcell
        unfold World.cell? at hcell
        rcases Nat.lt_or_ge B w.heap.size with hb|hb
        ·exact hb
        ·simp only[Array.getElem?_eq_none hb]at hcell
         cases hcell
       have hat: ∀i x,((List.range len).map f)[i]? =some x→i<len∧x=f i:=fun i x hx=>by
        rw[List.getElem?_map]at hx
        rcases Nat.lt_or_ge i len with hi|hi
        ·rw[List.getElem?_range hi]at hx
         cases hx
         exact⟨hi,rfl⟩
        ·rw[List.getElem?_eq_none (by simpa using hi)]at hx
         cases hx
       have hll:((List.range len).map f).length=len:=by simp
       have hTL:TyLL ts ((List.range len).map f):=by
        have: ∀(l:List Nat),(∀i∈l,i<len)→TyLL ts (l.map f):=fun l=>by
         induction l with
         |nil=>intro _;simp only[List.map_nil,TyLL]
         |cons a l ih=>
          intro hm
          simp only[List.map_cons,TyLL]
          exact⟨(hf a (by have:=hm a (by simp);omega)).1,ih fun i hi=>hm i (by simp[hi])⟩
        exact this _ fun i hi=>by simpa using hi
       refine⟨.l (.slice (some ⟨B,O,none⟩) len m) ((List.range len).map f),rfl,⟨hTL,by rw[hll];omega,_,m,by rw[hll],by rw[hll];exact hl⟩, ?_⟩
       simp only[GM]
       refine⟨_,m,by rw[hll],.inr ⟨B,O,rfl,.inr ⟨hB, ?_⟩⟩⟩
       refine GME.all (n:=ts.length) (fun x hx=> ?_) fun i x hx=> ?_
       ·obtain⟨i,hi,rfl⟩:=List.mem_map.1 hx
        exact(hf i (by have:=List.mem_range.1 hi;omega)).1.len
       ·obtain⟨hi,rfl⟩:=hat i x hx
        obtain⟨h1,h2,h3⟩:=hf i (by omega)
        refine GMC.all fun j g hg=>⟨?_,GML.at h2 hg⟩
        have:=h3 j g hg
        rw[hadd]at this
        exact this
    ·cases h
   ·cases h
end
end
end Go.Ev
