/- Engine, part Tk: code in parts, cut at loops' heads and ahead of operations of regions that are not drawn. -/
import Derived.Test.YtmmmknhdigapkaaEvTj
import Derived.Deep.Slices
namespace Go.Ev
set_option linter.unusedVariables false
noncomputable section
open Go.RowKit
def e2v(r k:Nat):List (Nat×Nat)→Bool
 | []=>false
 |p::l=>match Nat.beq p.1 r,Nat.beq p.2 k with
  |true,true=>true|_,_=>e2v r k l
def e2u(r:Nat):List (Nat×Nat)→Bool
 | []=>false
 |p::l=>match Nat.beq p.1 r with
  |true=>true|false=>e2u r l
def b5D(O:List (Nat×Nat))(r:Nat):Nat→Nat→Option Nat
 |0,_=>none
 |n+1,k=>match e2v r k O with
  |true=>some k|false=>b5D O r n (k+1)
def b2Y(O:List (Nat×Nat)):Code→Bool
 |.region id _ _=>e2u id O
 |.seq x y=>match b2Y O x with
  |true=>true|false=>b2Y O y
 |.cond _ x y=>match b2Y O x with
  |true=>true|false=>b2Y O y
 |.block _ c=>b2Y O c|.loop c=>b2Y O c|_=>false
def a1t:Code→List Nat
 |.region id _ _=>[id]|.seq x y=>a1t x++a1t y|.cond _ x y=>a1t x++a1t y|.block _ c=>a1t c|.loop c=>a1t c|_=>[]
def a8y(r:Nat):Code→Nat→List Fr1→Option (List Oper×List Fr1)
 |.region id ⟨ops⟩ d,n,K=>match Nat.beq id r,d with
  |true,false=>some (ops,K)|_,_=>none
 |.seq x y,n,K=>match a8y r x n (.sq y (n+nl x)::K)with
  |some z=>some z|none=>a8y r y (n+nl x) K
 |.cond _ x y,n,K=>match a8y r x n K with
  |some z=>some z|none=>a8y r y (n+nl x) K
 |.block id c,n,K=>a8y r c n (.bk id::K)|.loop c,n,K=>a8y r c (n+1) (.lp c n::K)|_,_,_=>none
theorem a1x{r:Nat}: ∀{c:Code} {n:Nat} {K:List Fr1},r∉a1t c→a8y r c n K=none
 |.region id ⟨ops⟩ d,n,K,h=>by
  simp only[a8y];split
  ·rename_i h1;exact absurd (by simp[a1t,Nat.eq_of_beq_eq_true h1]) h
  ·rfl
 |.seq x y,n,K,h=>by simp only[a1t,List.mem_append,not_or]at h;simp only[a8y,a1x h.1];exact a1x h.2
 |.cond _ x y,n,K,h=>by simp only[a1t,List.mem_append,not_or]at h;simp only[a8y,a1x h.1];exact a1x h.2
 |.block id c,n,K,h=>by simp only[a8y];exact a1x (by simpa[a1t]using h)
 |.loop c,n,K,h=>by simp only[a8y];exact a1x (by simpa[a1t]using h)
 |.skip,_,_,_=>rfl
 |.rangeFunc _ _ _ _,_,_,_=>rfl
 |.exit _,_,_,_=>rfl
 |.scope _,_,_,_=>rfl
 |.label _,_,_,_=>rfl
 |.goto _,_,_,_=>rfl
 |.ret,_,_,_=>rfl
 |.refuse _,_,_,_=>rfl
structure AtB(body:Code)(c:Code)(n:Nat)(K:List Fr1):Prop where
 lp:At1 body c n K
 rg: ∀r∈a1t c,a8y r body 0 []=a8y r c n K
 nd:(a1t c).Nodup
def KOB(body:Code):List Fr1→Prop
 | []=>True|.sq y n::K=>AtB body y n K∧KOB body K|.bk _::K=>KOB body K|.lp _ _::K=>KOB body K
theorem b7W{l m:List Nat}(h:(l++m).Nodup):l.Nodup∧m.Nodup∧ ∀a∈l,a∉m:=by obtain⟨h1,h2,h3⟩:=List.nodup_append.1 h;exact⟨h1,h2,fun a ha hm=>h3 a ha a hm rfl⟩
theorem AtB.seq{body x y:Code}{n:Nat}{K:List Fr1}(h:AtB body (.seq x y) n K):AtB body x n (.sq y (n+nl x)::K)∧AtB body y (n+nl x) K:=by
 obtain⟨d1,d2,d3⟩:=b7W (show(a1t x++a1t y).Nodup from h.nd);refine⟨⟨h.lp.seq.1,fun r hr=> ?_,d1⟩,⟨h.lp.seq.2,fun r hr=> ?_,d2⟩⟩
 ·rw[h.rg r (List.mem_append_left _ hr)];simp only[a8y];split
  ·rename_i z hz;rw[hz]
  ·rename_i hz;rw[hz];exact a1x (d3 r hr)
 ·rw[h.rg r (List.mem_append_right _ hr)];simp only[a8y];rw[a1x (c:=x) fun hx=>d3 r hx hr]
theorem AtB.cond{body x y:Code}{o:Operand}{n:Nat}{K:List Fr1}(h:AtB body (.cond o x y) n K):AtB body x n K∧AtB body y (n+nl x) K:=by
 obtain⟨d1,d2,d3⟩:=b7W (show(a1t x++a1t y).Nodup from h.nd);refine⟨⟨h.lp.cond.1,fun r hr=> ?_,d1⟩,⟨h.lp.cond.2,fun r hr=> ?_,d2⟩⟩
 ·rw[h.rg r (List.mem_append_left _ hr)];simp only[a8y];split
  ·rename_i z hz;rw[hz]
  ·rename_i hz;rw[hz];exact a1x (d3 r hr)
 ·rw[h.rg r (List.mem_append_right _ hr)];simp only[a8y];rw[a1x (c:=x) fun hx=>d3 r hx hr]
theorem AtB.block{body c:Code}{id n:Nat}{K:List Fr1}(h:AtB body (.block id c) n K):AtB body c n (.bk id::K):=⟨h.lp.block,fun r hr=>by rw[h.rg r hr];rfl,h.nd⟩
theorem AtB.loop{body c:Code}{n:Nat}{K:List Fr1}(h:AtB body (.loop c) n K):ctx n body 0 []=some (c,K)∧AtB body c (n+1) (.lp c n::K):=⟨h.lp.loop.1,h.lp.loop.2,fun r hr=>by rw[h.rg r hr];rfl,h.nd⟩
theorem KOB.ok{body:Code}: ∀{K:List Fr1},KOB body K→KOK body K
 | [],_=>trivial
 |.sq y n::K,h=>⟨h.1.lp,KOB.ok h.2⟩|.bk _::K,h=>KOB.ok (K:=K) h|.lp _ _::K,h=>KOB.ok (K:=K) h
theorem a7h{body:Code}: ∀{x:Code} {n:Nat} {K:List Fr1} {t:Nat} {c:Code} {K':List Fr1},AtB body x n K→KOB body K→n≤t→t<n+nl x→ctx t x n K=some (c,K')→AtB body (.loop c) t K'∧KOB body K'
 |.seq x y,n,K,t,c,K',h,hk,h1,h2,hc=>by
  simp only[nl]at h2;simp only[ctx]at hc;split at hc
  ·rename_i hb;have hb:t<n+nl x:=a1U hb;exact a7h h.seq.1 ⟨h.seq.2,hk⟩ h1 hb hc
  ·rename_i hb;have hb:=a8W hb;exact a7h h.seq.2 hk hb (by omega) hc
 |.cond o x y,n,K,t,c,K',h,hk,h1,h2,hc=>by
  simp only[nl]at h2;simp only[ctx]at hc;split at hc
  ·rename_i hb;have hb:t<n+nl x:=a1U hb;exact a7h h.cond.1 hk h1 hb hc
  ·rename_i hb;have hb:=a8W hb;exact a7h h.cond.2 hk hb (by omega) hc
 |.block id x,n,K,t,c,K',h,hk,h1,h2,hc=>a7h (K:=.bk id::K) h.block hk h1 h2 (by simpa only[ctx]using hc)
 |.loop x,n,K,t,c,K',h,hk,h1,h2,hc=>by
  simp only[ctx]at hc;simp only[nl]at h2;split at hc
  ·rename_i hb;cases hc;rw[Nat.eq_of_beq_eq_true hb];exact⟨h,hk⟩
  ·rename_i hb
   have hne:t≠n:=fun e=>by subst e;rw[Nat.beq_refl]at hb;cases hb
   exact a7h (K:=.lp x n::K) h.loop.2 hk (by omega) (by omega) hc
 |.region _ _ _,n,K,t,c,K',_,_,_,_,hc=>by simp[ctx]at hc
 |.skip,n,K,t,c,K',_,_,_,_,hc=>by simp[ctx]at hc
 |.rangeFunc _ _ _ _,n,K,t,c,K',_,_,_,_,hc=>by simp[ctx]at hc
 |.exit _,n,K,t,c,K',_,_,_,_,hc=>by simp[ctx]at hc
 |.scope _,n,K,t,c,K',_,_,_,_,hc=>by simp[ctx]at hc
 |.label _,n,K,t,c,K',_,_,_,_,hc=>by simp[ctx]at hc
 |.goto _,n,K,t,c,K',_,_,_,_,hc=>by simp[ctx]at hc
 |.ret,n,K,t,c,K',_,_,_,_,hc=>by simp[ctx]at hc
 |.refuse _,n,K,t,c,K',_,_,_,_,hc=>by simp[ctx]at hc
inductive SegP where
 |cut (t:Nat) (a:VT) (H:VH)
 |mid (r k:Nat) (a:VT) (H:VH)
 |out (x:VX) (a:VT) (H:VH)
def d5P(P:Program)(fe:FE)(nt:Nat)(O:List (Nat×Nat))(r:Nat)(ops:List Oper)(k0:Nat)(a:VT)(H:VH):Option (Option Nat×VT×VH):=match b5D O r ops.length k0 with
 |some k=>match a2F P fe nt ops ((ops.take k).drop k0) a H with
  |some (a',H')=>some (some k,a',H')|none=>none
 |none=>match a2F P fe nt ops (ops.drop k0) a H with
  |some (a',H')=>some (none,a',H')|none=>none
def c1i(P:Program)(rc:Go.Ev.CE)(fe:FE)(nt:Nat)(S:List Nat)(O:List (Nat×Nat)):Nat→Code→Nat→List Fr1→VT→VH→Option SegP
 |0,_,_,_,_,_=>none
 |f+1,c,n,K,a,H=>match c7M S n (nl c),b2Y O c with
  |false,false=>match rc nt c a H with
   |some (x,a',H')=>match pop x K with
    |.code y n K=>c1i P rc fe nt S O f y n K a' H'|.head n=>some (.cut n a' H')|.done x=>some (.out x a' H')
   |none=>none
  |_,_=>match c with
   |.seq x y=>c1i P rc fe nt S O f x n (.sq y (n+nl x)::K) a H|.block id c=>c1i P rc fe nt S O f c n (.bk id::K) a H
   |.cond o x y=>match a0A a o with
    |some (.bool b)=>match b with
     |true=>c1i P rc fe nt S O f x n K a H|false=>c1i P rc fe nt S O f y (n+nl x) K a H
    |_=>none
   |.loop _=>some (.cut n a H)
   |.region r ⟨ops⟩ false=>match d5P P fe nt O r ops 0 a H with
    |some (some k,a',H')=>some (.mid r k a' H')
    |some (none,a',H')=>match pop .normal K with
     |.code y n K=>c1i P rc fe nt S O f y n K a' H'|.head n=>some (.cut n a' H')|.done x=>some (.out x a' H')
    |none=>none
   |_=>none
def d9H(P:Program)(rc:Go.Ev.CE)(fe:FE)(nt:Nat)(S:List Nat)(O:List (Nat×Nat))(f:Nat)(r:Nat)(ops:List Oper)(k0:Nat)(K:List Fr1)(a:VT)(H:VH):Option SegP:=match d5P P fe nt O r ops k0 a H with
 |some (some k,a',H')=>some (.mid r k a' H')
 |some (none,a',H')=>match pop .normal K with
  |.code y n K=>c1i P rc fe nt S O f y n K a' H'|.head n=>some (.cut n a' H')|.done x=>some (.out x a' H')
 |none=>none
theorem range_split{a b c:Nat}(h1:a≤b)(h2:b≤c):List.range' a (c-a)=List.range' a (b-a)++List.range' b (c-b):=by have:=List.range'_append_1 (s:=a) (m:=b-a) (n:=c-b);rw[show a+(b-a)=b by omega,show b-a+(c-b)=c-a by omega]at this;exact this.symm
theorem a9L{O:List (Nat×Nat)}{r:Nat}: ∀{n k j:Nat},b5D O r n k=some j→k≤j∧j<k+n
 |0,_,_,h=>by cases h
 |n+1,k,j,h=>by
  simp only[b5D]at h;split at h
  ·cases h;omega
  ·have:=a9L h;omega
section
variable{P:Program}{Q:Exit→Act→World→Prop}{HD:Nat→Act→World→Prop}
theorem a4I[Ext](hng:a6U P){fe:FE}(hfe:FEok P fe){F:Frm}{w0:World}{R:Rho→Prop}{sz nt:Nat}(hnt:nt≤top)(hsz:nt≤sz){all pre l post:List Oper}(hall:all=pre++(l++post)){a a₁:VT}{H H₁:VH}(hr:a2F P fe nt all l a H=some (a₁,H₁)){act:Act}{w:World}(k:RSG F w0 R sz a H act w){Q:Exit→Act→World→Prop}{rest:List Nat}
  (hQ: ∀act' w',H₁.base=H.base→RSG F w0 R sz a₁ H₁ act' w'→wpOpsIn (Fr none) 0 P ⟨all⟩ Q rest act' w'):wpOpsIn (Fr none) 0 P ⟨all⟩ Q (List.range' pre.length l.length++rest) act w:=by
 obtain⟨φ,k1,k2,k3,k4,k5,k6⟩:=k;refine a5I (a8D hng hfe hnt none l pre a H a₁ H₁ hall hr φ act w k2 k3 (by omega) (fun _=>False) (by rw[k6];exact .nil) _ ?_);rintro act' w' ⟨φ',_,h2,h3,h4,q1,h6,h7⟩;exact hQ act' w' q1 ⟨φ',by rw[h2.le.2];exact k1,h3,h4,k4.step h2,h6.trans k5,h7.no⟩
theorem a1G{body:Code}{act:Act}{w:World}: ∀{K:List Fr1} {x:VX},KOB body K→
  (match pop x K with
   |.code y n K'=>AtB body y n K'→KOB body K'→y.wpIn (Fr none) 0 P (a0S P HD Q K') act w|.head n=>HD n act w
   |.done x=>Q x.real act w)→a0S P HD Q K x.real act w
 | [],x,_,h=>by simpa only[pop,a0S]using h
 |.sq y n::K,x,hk,h=>by
  cases x with
  |normal=>simp only[pop]at h;simp only[a0S,VX.real,Exit.then];exact h hk.1 hk.2
  |ret=>simp only[pop]at h;simp only[a0S,VX.real,Exit.then];exact a1G (x:=.ret) hk.2 h
  |exit j=>simp only[pop]at h;simp only[a0S,VX.real,Exit.then];exact a1G (x:=.exit j) hk.2 h
 |.bk id::K,x,hk,h=>by
  cases x with
  |normal=>simp only[pop]at h;simp only[a0S,VX.real,Exit.inBlock];exact a1G (x:=.normal) (show KOB body K from hk) h
  |ret=>simp only[pop]at h;simp only[a0S,VX.real,Exit.inBlock];exact a1G (x:=.ret) (show KOB body K from hk) h
  |exit j=>
   simp only[pop]at h;simp only[a0S,VX.real,Exit.inBlock]
   by_cases e:j=id
   ·subst e;have e1:Nat.beq j j=true:=by simp
    rw[e1]at h;rw[if_pos rfl];exact a1G (x:=.normal) (show KOB body K from hk) h
   ·have e1:Nat.beq j id=false:=d4x e;rw[e1]at h;rw[if_neg e];exact a1G (x:=.exit j) (show KOB body K from hk) h
 |.lp c n::K,x,hk,h=>by
  cases x with
  |normal=>simp only[pop]at h;simp only[a0S,VX.real,Exit.then];exact h
  |ret=>simp only[pop]at h;simp only[a0S,VX.real,Exit.then];exact a1G (x:=.ret) (show KOB body K from hk) h
  |exit j=>simp only[pop]at h;simp only[a0S,VX.real,Exit.then];exact a1G (x:=.exit j) (show KOB body K from hk) h
def GoP[Ext](P:Program)(F:Frm)(w0:World)(R:Rho→Prop)(sz:Nat)(body:Code)(HD:Nat→Act→World→Prop)(Q:Exit→Act→World→Prop)(H:VH):SegP→Prop
 |.cut t a' H'=> ∀act' w',H'.base=H.base→RSG F w0 R sz a' H' act' w'→HD t act' w'∧ ∀c' K',ctx t body 0 []=some (c',K')→(Code.loop c').wpIn (Fr none) 0 P (a0S P HD Q K') act' w'|.mid r k a' H'=> ∀act' w',H'.base=H.base→RSG F w0 R sz a' H' act' w'→ ∀ops K',a8y r body 0 []=some (ops,K')→KOB body K'→wpOpsIn (Fr none) 0 P ⟨ops⟩ (a0S P HD Q K') (List.range' k (ops.length-k)) act' w'|.out x a' H'=> ∀act' w',H'.base=H.base→RSG F w0 R sz a' H' act' w'→Q x.real act' w'
theorem GoP.base[Ext]{F:Frm}{w0:World}{R:Rho→Prop}{sz:Nat}{body:Code}{H H':VH}(e:H'.base=H.base): ∀{o:SegP},GoP P F w0 R sz body HD Q H o→GoP P F w0 R sz body HD Q H' o
 |.cut t a'' H'',h=>fun act' w' e'=>h act' w' (e'.trans e)
 |.mid r k a'' H'',h=>fun act' w' e'=>h act' w' (e'.trans e)
 |.out x a'' H'',h=>fun act' w' e'=>h act' w' (e'.trans e)
theorem a1i[Ext](hng:a6U P){Rr:Option Nat→Prop}(hRr:Rr none){rc:Go.Ev.CE}(hrc:CEokT P False Rr rc){fe:FE}(hfe:FEok P fe){F:Frm}{w0:World}{R:Rho→Prop}{sz nt:Nat}(hnt:nt≤top)(hsz:nt≤sz){body:Code}{S:List Nat}{O:List (Nat×Nat)}: ∀{f:Nat} {c:Code} {n:Nat} {K:List Fr1} {a:VT} {H:VH} {o:SegP},AtB body c n K→KOB body K→c1i P rc fe nt S O f c n K a H=some o→
  ∀{act:Act} {w:World},RSG F w0 R sz a H act w→GoP P F w0 R sz body HD Q H o→c.wpIn (Fr none) 0 P (a0S P HD Q K) act w
 |0,c,n,K,a,H,o,_,_,h,_,_,_,_=>by simp[c1i]at h
 |f+1,c,n,K,a,H,o,hat,hk,h,act,w,k,hq=>by
  simp only[c1i]at h;split at h
  ·split at h
   ·rename_i x a' H' hr;obtain⟨φ,k1,k2,k3,k4,k5,k6⟩:=k;refine wpIn_mono (hrc w0 nt c a H x a' H' hr hnt none hRr φ act w k2 k3 (by omega) (fun _=>False) (fun h=>h.elim) (by rw[k6];exact .nil)) ?_;rintro e act' w' ⟨φ',rfl,h2,h3,h4,q1,h6,h7⟩;have q2:RSG F w0 R sz a' H' act' w':=⟨φ',by rw[h2.le.2];exact k1,h3,h4,k4.step h2,h6.trans k5,h7.no⟩;refine a1G hk ?_;split at h
    ·rename_i y m K' hp;intro g1 g2;exact a1i hng hRr hrc hfe hnt hsz g1 g2 h q2 (hq.base q1)
    ·rename_i m hp;simp only[Option.some.injEq]at h;subst h;exact(hq act' w' q1 q2).1
    ·rename_i x' hp;simp only[Option.some.injEq]at h;subst h;exact hq act' w' q1 q2
   ·cases h
  ·split at h
   ·rename_i x y _;refine wpIn_seq ?_;exact a1i hng hRr hrc hfe hnt hsz (K:=.sq y (n+nl x)::K) hat.seq.1 ⟨hat.seq.2,hk⟩ h k hq
   ·rename_i id c _;refine wpIn_block ?_;exact a1i hng hRr hrc hfe hnt hsz (K:=.bk id::K) hat.block hk h k hq
   ·rename_i oc x y _;split at h
    ·rename_i b hb;obtain⟨φ,k1,k2,k3⟩:=k;have hv:=a0B k2 hb;simp only[VR]at hv;have k:RSG F w0 R sz a H act w:=⟨φ,k1,k2,k3⟩;split at h
     ·exact wpIn_cond hv (a1i hng hRr hrc hfe hnt hsz hat.cond.1 hk h k hq)
     ·exact wpIn_cond hv (a1i hng hRr hrc hfe hnt hsz hat.cond.2 hk h k hq)
    ·cases h
   ·simp only[Option.some.injEq]at h;subst h;exact(hq act w rfl k).2 _ _ hat.loop.1
   ·rename_i r ops _
    have hcr:a8y r body 0 []=some (ops,K):=by rw[hat.rg r (by simp[a1t])];simp[a8y]
    refine wpIn_region ?_;show wpOpsIn (Fr none) 0 P ⟨ops⟩ (a0S P HD Q K) (List.range ops.length) act w;split at h
    ·rename_i kk a' H' ho;cases h;unfold d5P at ho;split at ho
     ·rename_i k2 hn;split at ho
      ·rename_i a2 H2 hr;cases ho;obtain⟨l1,l2⟩:=a9L hn
       have e:List.range ops.length=List.range' ([]:List Oper).length (ops.take kk).length++List.range' kk (ops.length-kk):=by have:=range_split (a:=0) (b:=kk) (c:=ops.length) (by omega) (by omega);rw[List.length_take,Nat.min_eq_left (by omega),List.length_nil,List.range_eq_range'];exact this
       rw[e];refine a4I hng hfe hnt hsz (pre:=[]) (l:=ops.take kk) (post:=ops.drop kk) (by simp) (by simpa using hr) k fun act' w' q1 q2=> ?_;exact hq act' w' q1 q2 ops K hcr hk
      ·cases ho
     ·split at ho<;>cases ho
    ·rename_i a' H' ho;unfold d5P at ho;split at ho
     ·split at ho<;>cases ho
     ·split at ho
      ·rename_i a2 H2 hr;cases ho;have e:List.range ops.length=List.range' ([]:List Oper).length ops.length++ []:=by rw[List.append_nil,List.length_nil,List.range_eq_range']
       rw[e];refine a4I hng hfe hnt hsz (pre:=[]) (l:=ops) (post:=[]) (by simp) (by simpa using hr) k fun act' w' q1 q2=> ?_;show a0S P HD Q K VX.normal.real act' w';refine a1G hk ?_;split at h
       ·rename_i y m K' hp;intro g1 g2;exact a1i hng hRr hrc hfe hnt hsz g1 g2 h q2 (hq.base q1)
       ·rename_i m hp;simp only[Option.some.injEq]at h;subst h;exact(hq act' w' q1 q2).1
       ·rename_i x' hp;simp only[Option.some.injEq]at h;subst h;exact hq act' w' q1 q2
      ·cases ho
    ·cases h
   ·cases h
theorem c3i[Ext](hng:a6U P){Rr:Option Nat→Prop}(hRr:Rr none){rc:Go.Ev.CE}(hrc:CEokT P False Rr rc){fe:FE}(hfe:FEok P fe){F:Frm}{w0:World}{R:Rho→Prop}{sz nt:Nat}(hnt:nt≤top)(hsz:nt≤sz){body:Code}{S:List Nat}{O:List (Nat×Nat)}{f r k0:Nat}{ops:List Oper}{K:List Fr1}{a:VT}{H:VH}{o:SegP}(hcr:a8y r body 0 []=some (ops,K))(hk:KOB body K)(h0:k0≤ops.length)(h:d9H P rc fe nt S O f r ops k0 K a H=some o)
  {act:Act} {w:World} (k:RSG F w0 R sz a H act w) (hq:GoP P F w0 R sz body HD Q H o):wpOpsIn (Fr none) 0 P ⟨ops⟩ (a0S P HD Q K) (List.range' k0 (ops.length-k0)) act w:=by
 unfold d9H at h;split at h
 ·rename_i kk a' H' ho;cases h;unfold d5P at ho;split at ho
  ·rename_i k2 hn;split at ho
   ·rename_i a2 H2 hr;cases ho;obtain⟨l1,l2⟩:=a9L hn;have hkk:kk≤ops.length∨ops.length<kk:=by omega
    rcases hkk with hkk|hkk
    ·have el:((ops.take kk).drop k0).length=kk-k0:=by rw[List.length_drop,List.length_take,Nat.min_eq_left hkk]
     have e:List.range' k0 (ops.length-k0)=List.range' (ops.take k0).length ((ops.take kk).drop k0).length++List.range' kk (ops.length-kk):=by rw[el,List.length_take,Nat.min_eq_left h0];exact range_split l1 hkk
     have ea:ops=ops.take k0++((ops.take kk).drop k0++ops.drop kk):=by
      rw[←List.append_assoc];have:ops.take k0=(ops.take kk).take k0:=by rw[List.take_take,Nat.min_eq_left l1]
      rw[this,List.take_append_drop,List.take_append_drop]
     rw[e];refine a4I hng hfe hnt hsz (pre:=ops.take k0) (l:=(ops.take kk).drop k0) (post:=ops.drop kk) ea hr k fun act' w' q1 q2=> ?_;exact hq act' w' q1 q2 ops K hcr hk
    ·have e1:ops.take kk=ops:=List.take_of_length_le (by omega);rw[e1]at hr
     have e:List.range' k0 (ops.length-k0)=List.range' (ops.take k0).length (ops.drop k0).length++List.range' kk (ops.length-kk):=by
      rw[show ops.length-kk=0 by omega,List.length_take,List.length_drop,Nat.min_eq_left h0]
      simp
     rw[e];refine a4I hng hfe hnt hsz (pre:=ops.take k0) (l:=ops.drop k0) (post:=[]) (by rw[List.append_nil];exact(List.take_append_drop k0 ops).symm) hr k fun act' w' q1 q2=> ?_;exact hq act' w' q1 q2 ops K hcr hk
   ·cases ho
  ·split at ho<;>cases ho
 ·rename_i a' H' ho;unfold d5P at ho;split at ho
  ·split at ho<;>cases ho
  ·split at ho
   ·rename_i a2 H2 hr;cases ho
    have e:List.range' k0 (ops.length-k0)=List.range' (ops.take k0).length (ops.drop k0).length++ []:=by rw[List.append_nil,List.length_take,List.length_drop,Nat.min_eq_left h0]
    rw[e];refine a4I hng hfe hnt hsz (pre:=ops.take k0) (l:=ops.drop k0) (post:=[]) (by rw[List.append_nil];exact(List.take_append_drop k0 ops).symm) hr k fun act' w' q1 q2=> ?_;show a0S P HD Q K VX.normal.real act' w';refine a1G hk ?_;split at h
    ·rename_i y m K' hp;intro g1 g2;exact a1i hng hRr hrc hfe hnt hsz g1 g2 h q2 (hq.base q1)
    ·rename_i m hp;simp only[Option.some.injEq]at h;subst h;exact(hq act' w' q1 q2).1
    ·rename_i x' hp;simp only[Option.some.injEq]at h;subst h;exact hq act' w' q1 q2
   ·cases ho
 ·cases h
end
def bdL:List BlS→List (Nat×Int)
 | []=>[]|.lst j _ _ _ n::l=>(j,(n:Int))::bdL l|_::l=>bdL l
def pi0(tys:List Ty)(bl:List BlS):PI:=⟨tys,[],[],0,[],[],bdL bl,[]⟩
structure Cf where
 f:FuncId
 sh:List Sh
 rs:List Sh
 pre:List G→Prop
 post:List G→List G→Prop
structure CfOK(P:Program)(c:Cf):Prop where
 nw: ∀t∈a0F c.rs,c0P t=true
 ok: ∀w gs (L:List Nat),(∀b∈L,b<w.heap.size)→TyL (a0F c.sh) gs→GML (a0W w L) gs→c.pre gs→
  Calls P c.f ⟨a3e c.sh gs⟩ w fun e w'=> ∃us,c.post gs us∧e= .returned (a8w c.rs us)∧TyL (a0F c.rs) us∧GML (a0W w' L) us∧Below w.heap.size w w'
structure ObjSt(w:World)(O:List Inf)(σ:List G)(bl:List BlS):Prop where
 len:O.length=bl.length
 ok: ∀(q:Nat) (b:BlS),bl[q]? =some b→e3U σ (O.map some) w b (a3w (O.map some) q)
 nd: ∀(i j:Nat) (o o':Inf),O[i]? =some o→O[j]? =some o'→o.blk=o'.blk→i=j
 lt: ∀o∈O,o.blk<w.heap.size
def b3H(σ:List G)(infs:List (Option Inf)):List SV→List Value→Prop
 | [],[]=>True|s::l,v::vs=>svR σ infs s v∧b3H σ infs l vs|_,_=>False
structure Co where
 f:FuncId
 ia:List SV
 ty:List Ty
 bl:List BlS
 rs:List Sh
 oty:List Ty
 obl:List BlS
 pre:List G→Prop
 post:List G→List G→Prop
 pan:List G→Prop
 pv:Value
def a7N(v:Value):List PanicEntry:=[{v:=v,recovered:=false}]
structure CoOK(P:Program)(c:Co):Prop where
 ok: ∀w σ (O:List Inf) (L:List Nat) vs,(∀b∈L,b<w.heap.size)→ObjSt w O σ c.bl→TyL c.ty σ→GML (a0W w (L++a1Y (O.map some))) σ→b3H σ (O.map some) c.ia vs→c.pre σ→
  Calls P c.f ⟨vs⟩ w fun e w'=>AncO O w w'∧((∃us,c.post σ us∧e= .returned (a8w c.rs us)∧TyL (a0F c.rs++c.oty) us∧GML (a0W w' (L++a1Y (O.map some))) us∧ObjSt w' O us c.obl)∨(c.pan σ∧e= .panicked (a7N c.pv)))
structure MdE where
 r:Nat
 k:Nat
 c:Nat
 xs:List VV
 sg:Sig
 tr:Vt
structure FnV where
 psh:List Sh
 rs:List Sh
 S:List Nat
 O:List (Nat×Nat)
 ent:Vt
 hd:List (Nat×Sig×Vt)
 md:List (Nat×MdE)
structure MdO where
 r:Nat
 k:Nat
 c:Nat
 m:List Nat
 xs:List VV
 sg:Sig
 tr:Vt
structure FnO where
 ia:List SV
 ty:List Ty
 bl:List BlS
 rs:List Sh
 oty:List Ty
 obl:List BlS
 S:List Nat
 O:List (Nat×Nat)
 ent:Vt
 hd:List (Nat×Sig×Vt)
 md:List (Nat×MdO)
inductive Plc where
 |ent
 |lp (t:Nat)
 |md (r k:Nat)
def d2q(rs:List Sh)(n:Nat):SV:=match rs with
 | [.d _]=>.d n| [.st ts]=>.st (List.range' n ts.length)|l=>.tu l n
def b8T(d:Nat):List (Nat×SV)→List (Nat×SV)
 | []=>[]
 |q::l=>match Nat.beq q.1 d with
  |true=>b8T d l|false=>q::b8T d l
def b0w:List Sh→Nat→Nat→List (Nat×SV)
 | [],_,_=>[]|.d _::l,t,j=>(t,.d j)::b0w l (t+1) (j+1)|.st ts::l,t,j=>(t,.st (List.range' j ts.length))::b0w l (t+1) (j+ts.length)
def e2p(sh:List Sh):List SV:=(b0w sh 0 0).map Prod.snd
def Cf.o(c:Cf):Co:=⟨c.f,e2p c.sh,a0F c.sh,[],c.rs,[],[],c.pre,c.post,fun _=>False,.bool false⟩
def MdE.o(e:MdE):MdO:=⟨e.r,e.k,e.c,[],e.xs,e.sg,e.tr⟩
def FnV.o(F:FnV):FnO:=⟨e2p F.psh,a0F F.psh,[],F.rs,[],[],F.S,F.O,F.ent,F.hd,F.md.map fun q=>(q.1,q.2.o)⟩
def d5b(xs:List VV)(j:Nat):VV:=match a0H xs j with
 |some x=>x|none=>.any
def b3J(xs:List VV)(m:List Nat):SV→VV
 |.d j=>d5b xs j|.st js=>.agg (js.map (d5b xs))
 |.p q o=>match a0H m q with
  |some b=>.ptr (some ⟨.loc b,o⟩)|none=>.any
 |.k x=>x
 |.fp f q=>match a0H m q with
  |some b=>.func (.func f) [.ptr (some ⟨.loc b,0⟩)] []|none=>.any
 |_=>.any
def b7a(n:Nat):List Nat→Bool
 | []=>true
 |j::l=>match Nat.blt j n with
  |true=>b7a n l|false=>false
def d9F(n nb:Nat):SV→Bool
 |.d j=>Nat.blt j n|.st js=>b7a n js|.p q _=>Nat.blt q nb|.k x=>a6j 0 0 x|.fp _ q=>Nat.blt q nb|_=>false
def b4d(n nb:Nat):List SV→Bool
 | []=>true
 |s::l=>match d9F n nb s with
  |true=>b4d n nb l|false=>false
def d8R(tys:List Ty)(xs:List VV)(m:List Nat)(b:BlS)(b':Option BlS):Bool:=match b,b' with
 |.cells c g ro et,some (.cells c' g' ro' et')=>match a5Z g' g,Nat.ble ro' ro,c8a et' et,b4d xs.length m.length c with
  |true,true,true,true=>vvsEq (c'.map (c8W [] tys)) (c.map (b3J xs m))|_,_,_,_=>false
 |_,_=>false
def c4d(sg:Sig)(xs:List VV)(m:List Nat):List BlS→List Nat→Bool
 | [],[]=>true
 |b::l,i::is=>match d8R sg.tys xs m b (a0H sg.bl i)with
  |true=>c4d sg xs m l is|false=>false
 |_,_=>false
def d5N(n:Nat)(m:List Nat):SV→SV
 |.d j=>.d (n+j)|.st js=>.st (js.map (n+ ·))
 |.p q o=>match a0H m q with
  |some b=>.p b o|none=>.p q o
 |.fp f q=>match a0H m q with
  |some b=>.fp f b|none=>.fp f q
 |s=>s
def e3t(n:Nat)(m:List Nat):BlS→BlS
 |.cells c g ro et=>.cells (c.map (d5N n m)) g ro et|b=>b
def d9X(n nb:Nat):List BlS→Bool
 | []=>true
 |.cells c _ _ _::l=>match b4d n nb c with
  |true=>d9X n nb l|false=>false
 |_::_=>false
def a7E:List BlS→List Nat→List BlS→List BlS
 |l,i::is,b::bs=>a7E (l.set i b) is bs|l,_,_=>l
def c8d(sg:Sig)(dst:Option Nat)(m:List Nat)(c:Co):Sig:=⟨sg.tys++(a0F c.rs++c.oty),match dst with
 |some d=>(d,d2q c.rs sg.tys.length)::b8T d sg.tm
 |none=>sg.tm,a7E sg.bl m (c.obl.map (e3t sg.tys.length m))⟩
def e0Z(n:Nat):SV→Bool
 |.d j=>Nat.blt j n|.st js=>b7a n js|.tu sh j=>Nat.ble (j+(a0F sh).length) n|_=>true
def c3f(n:Nat):List SV→Bool
 | []=>true
 |s::l=>match e0Z n s with
  |true=>c3f n l|false=>false
def c4c(n:Nat):List BlS→Bool
 | []=>true
 |.cells c _ _ _::l=>match c3f n c with
  |true=>c4c n l|false=>false
 |_::l=>c4c n l
abbrev feK(P:Program)(K:List KE):FE:=(evN P (a3a P) (knL K) 20000).2
theorem evN_fe[Ext]{P:Program}(hng:a6U P)(hm:P.follows .mixedOrders=true){kn:KN}(hK:c4o P kn)(n:Nat):FEok P (evN P (a3a P) kn n).2:=(a8c hng (fun _ h=>a3K hng hm h) hK n).2.2
theorem c7Q{P:Program}(hng:a6U P)(hm:P.follows .mixedOrders=true){K:List KE}{S:Nat→Prop}: @FEok (XK P K S) P (feK P K):=by
 letI:Ext:=XK P K S
 exact evN_fe hng hm (c2R fun _ _ h=>h) 20000
def c9E(P:Program)(K:List KE)(nt:Nat)(S:List Nat)(O:List (Nat×Nat))(body:Code)(pl:Plc)(a:VT)(H:VH):Option SegP:=match pl with
 |.ent=>c1i P (rcK P K) (feK P K) nt S O 1000 body 0 [] a H
 |.lp t=>match ctx t body 0 []with
  |some (c,K')=>c1i P (rcK P K) (feK P K) nt S O 1000 c (t+1) (.lp c t::K') a H|none=>none
 |.md r k=>match a8y r body 0 []with
  |some (ops,K')=>match Nat.ble (k+1) ops.length with
   |true=>d9H P (rcK P K) (feK P K) nt S O 1000 r ops (k+1) K' a H|false=>none
  |none=>none
def c1s:List Ty→Bool
 | []=>true
 |t::l=>match c0P t with
  |true=>c1s l|false=>false
def d0A(nt:Nat)(sg:Sig)(bs:List (Nat×Bool)):VT:=mkT nt (sg.tm.map fun q=>(q.1,c8W bs sg.tys q.2))
def d3x(sg:Sig)(p:PI):VH:=⟨p.env,b3O (sg.bl.map (d1p p.bs sg.tys)) 0 .lf,sg.bl.length⟩
def idM:Nat→Nat→List (Option Nat)
 |0,_=>[]|n+1,k=>some k::idM n (k+1)
def d3D:Nat→Nat→List (Option Nat)→Bool
 |0,_,_=>true
 |n+1,k,some i::m=>match Nat.beq i k with
  |true=>d3D n (k+1) m|false=>false
 |_,_,_=>false
def b0z(P:Program)(res:List ResultVar)(F:FnO)(p:PI)(so:Option SegP)(t:Vt):Bool:=
 match so,t with
 |some (.cut h a H),.goto h' m xs=>match Nat.beq h h',a0s h' F.hd,d3D F.bl.length 0 m with
  |true,some (sg',_),true=>b7K p.tys p.bd sg' m xs a H|_,_,_=>false
 |some (.mid r k a H),.goto h' m xs=>match a0s h' F.md with
  |some e=>match Nat.beq e.r r,Nat.beq e.k k,d3D F.bl.length 0 m with
   |true,true,true=>b7K p.tys p.bd e.sg m xs a H|_,_,_=>false
  |none=>false
 |some (.out x a H),.ret xs=>match e1j x,a8E P a H res,c1s (a0F F.rs)with
  |true,some l,true=>match vvsEq l (vvS F.rs (xs.map GE.vv))with
   |true=>b7K p.tys p.bd ⟨a0F F.rs++F.oty,[],F.obl⟩ (idM F.bl.length 0) xs a H|false=>false
  |_,_,_=>false
 |_,_=>false
def b2w(P:Program)(nt:Nat)(body:Code)(res:List ResultVar)(F:FnO)(pl:Plc)(sg:Sig)(p:PI)(t:Vt):Bool:=b0z P res F p (c9E P p.ke nt F.S F.O body pl (d0A nt sg p.bs) (d3x sg p)) t
def c4l(nt:Nat)(sg:Sig):Bool:=match Nat.ble sg.bl.length 1000 with
 |true=>b9D (fun t=>Nat.blt t nt) (sg.tm.map Prod.fst)|false=>false
def d0e(P:Program)(C:Nat→Ct)(nt:Nat)(body:Code)(res:List ResultVar)(F:FnO):List (Nat×Sig×Vt)→Bool
 | []=>true
 |q::l=>match c4l nt q.2.1,a0x C (b2w P nt body res F (.lp q.1) q.2.1) q.2.2 (pi0 q.2.1.tys q.2.1.bl)with
  |true,true=>d0e P C nt body res F l|_,_=>false
def b5u(P:Program)(D:Nat→Co)(nt:Nat)(body:Code)(e:MdO):Option (Option Nat):=match a8y e.r body 0 []with
 |some (ops,_)=>match a0H ops e.k with
  |some o=>match o.guard,(evE P o.op (d0A nt e.sg []) (d3x e.sg (pi0 e.sg.tys e.sg.bl))).get with
   |none,.enter f args=>match Nat.beq f (D e.c).f,vvsEq args ((D e.c).ia.map (b3J e.xs e.m)),a5C e.sg.tys (D e.c).ty e.xs,b4d e.xs.length e.m.length (D e.c).ia with
    |true,true,true,true=>match c3f e.sg.tys.length (e.sg.tm.map Prod.snd),c4c e.sg.tys.length e.sg.bl,c4d e.sg e.xs e.m (D e.c).bl e.m,a5b e.m,d9X (a0F (D e.c).rs++(D e.c).oty).length e.m.length (D e.c).obl,Nat.beq (D e.c).obl.length e.m.length with
     |true,true,true,true,true,true=>some o.dst|_,_,_,_,_,_=>none
    |_,_,_,_=>none
   |_,_=>none
  |none=>none
 |none=>none
def d0d(P:Program)(C:Nat→Ct)(D:Nat→Co)(nt:Nat)(body:Code)(res:List ResultVar)(F:FnO):List (Nat×MdO)→Bool
 | []=>true
 |q::l=>match b5u P D nt body q.2 with
  |some dst=>match c4l nt q.2.sg,c4l nt (c8d q.2.sg dst q.2.m (D q.2.c)),a0x C (b2w P nt body res F (.md q.2.r q.2.k) (c8d q.2.sg dst q.2.m (D q.2.c))) q.2.tr (pi0 (c8d q.2.sg dst q.2.m (D q.2.c)).tys (c8d q.2.sg dst q.2.m (D q.2.c)).bl)with
   |true,true,true=>d0d P C D nt body res F l|_,_,_=>false
  |none=>false
def d7V:List SV→Nat→List (Nat×SV)
 | [],_=>[]|s::l,t=>(t,s)::d7V l (t+1)
def e0h(F:FnO):Sig:=⟨F.ty,d7V F.ia 0,F.bl⟩
def isCells:List BlS→Bool
 | []=>true|.cells _ _ _ _::l=>isCells l|_::_=>false
def a2H(P:Program)(C:Nat→Ct)(D:Nat→Co)(fn:Func)(F:FnO):Bool:=match fn.body with
 |some body=>match Nat.ble fn.ntmps top,Nat.ble F.ia.length fn.ntmps,a5b (a1t body),c4l fn.ntmps (e0h F),a0x C (b2w P fn.ntmps body fn.results.toList F .ent (e0h F)) F.ent (pi0 F.ty F.bl)with
  |true,true,true,true,true=>match d0e P C fn.ntmps body fn.results.toList F F.hd,isCells F.obl,Nat.beq F.obl.length F.bl.length with
   |true,true,true=>d0d P C D fn.ntmps body fn.results.toList F F.md|_,_,_=>false
  |_,_,_,_,_=>false
 |none=>false
def b5t(P:Program)(C:Nat→Ct)(D:Nat→Cf)(fn:Func)(F:FnV):Bool:=a2H P C (fun c=>(D c).o) fn F.o
theorem d4y{bl:List BlS}{q:Nat×Int}(h:q∈bdL bl): ∃(i:Nat) (j jn:Nat) (ts:List Ty) (et:Option TypeId) (n:Nat),bl[i]? =some (.lst j jn ts et n)∧q=(j,(n:Int)):=by
 induction bl with
 |nil=>cases h
 |cons b l ih=>
  cases b with
  |cells c g ro et=>obtain⟨i,r⟩:=ih (by simpa only[bdL]using h);exact⟨i+1,by simpa using r⟩
  |lst j jn ts et n=>
   simp only[bdL]at h;rcases List.mem_cons.1 h with rfl|h
   ·exact⟨0,j,jn,ts,et,n,rfl,rfl⟩
   ·obtain⟨i,r⟩:=ih h;exact⟨i+1,by simpa using r⟩
theorem d1H{O:List Inf}{L:List Nat}{P:Program}{S:Nat→Prop}{nt:Nat}{sg:Sig}{σ:List G}{infs:List (Option Inf)}{we:World}{act:Act}{w:World}(k:HeadSt O L nt sg σ infs we act w):PIok P S (a0W w (L++a1Y infs)) σ [] (pi0 sg.tys sg.bl):=
 ⟨k.ty,k.mem,(fun f hf=>by cases hf),rfl,(fun q hq=>by cases hq),(fun q hq=>by cases hq),(fun q hq=>by cases hq),(fun q hq=>by
  obtain⟨i,j,jn,ts,et,n,h1,rfl⟩:=d4y hq;rcases k.bl i _ h1 with⟨_,_,e⟩|⟨_,inf,es,_,e,hn,_⟩
  ·refine⟨getD_lt e (fun e=>by cases e), ?_⟩;simp only;rw[e];show((([]:List (List G)).length:Nat):Int)≤n
   simp
  ·refine⟨getD_lt e (fun e=>by cases e), ?_⟩;simp only;rw[e];show((es.length:Nat):Int)≤n
   omega),(fun q hq=>by cases hq)⟩
theorem b6v: ∀{ts:List Ty},c1s ts=true→ ∀t∈ts,c0P t=true
 | [],_,t,ht=>by cases ht
 |u::ts,h,t,ht=>by
  simp only[c1s]at h;split at h
  ·rename_i h1;rcases List.mem_cons.1 ht with rfl|ht
   ·exact h1
   ·exact b6v h t ht
  ·cases h
theorem c3J{p:Nat→Bool}: ∀{l:List Nat},b9D p l=true→ ∀x∈l,p x=true
 | [],_,x,hx=>by cases hx
 |y::l,h,x,hx=>by
  simp only[b9D]at h;split at h
  ·rename_i h1;rcases List.mem_cons.1 hx with rfl|hx
   ·exact h1
   ·exact c3J h x hx
  ·cases h
theorem b9r{nt:Nat}{sg:Sig}(h:c4l nt sg=true):sg.bl.length≤top∧ ∀q∈sg.tm,q.1<nt:=by
 unfold c4l at h;split at h
 ·rename_i h1;exact⟨Nat.le_trans (Nat.le_of_ble_eq_true h1) (by decide),fun q hq=>Nat.le_of_ble_eq_true (c3J h q.1 (List.mem_map.2 ⟨q,hq,rfl⟩))⟩
 ·cases h
theorem a6e{σ:List G}: ∀{n j:Nat},j+n≤σ.length→(List.range' j n).map (fun j=>(σ.getD j .d).val)=((σ.drop j).take n).map G.val
 |0,j,_=>by simp
 |n+1,j,h=>by
  have hj:j<σ.length:=by omega
  rw[List.range'_succ,List.map_cons,a6e (n:=n) (j:=j+1) (by omega),List.drop_eq_getElem_cons hj,List.take_succ_cons,List.map_cons,getD_of (List.getElem?_eq_getElem hj)]
theorem b6n{σ:List G}: ∀{n j:Nat},j+n≤σ.length→(List.range' j n).map (fun j=>σ.getD j .d)=(σ.drop j).take n
 |0,j,_=>by simp
 |n+1,j,h=>by
  have hj:j<σ.length:=by omega
  rw[List.range'_succ,List.map_cons,b6n (n:=n) (j:=j+1) (by omega),List.drop_eq_getElem_cons hj,List.take_succ_cons,getD_of (List.getElem?_eq_getElem hj)]
theorem b4b: ∀{sh:List Sh} {x:List G},(a3e sh x).length=sh.length
 | [],_=>rfl
 |.d _::l,x=>by simp[a3e,b4b (sh:=l)]
 |.st _::l,x=>by simp[a3e,b4b (sh:=l)]
theorem c5Q{σ:List G}{infs:List (Option Inf)}: ∀{l:List SV} {vs:List Value},b3H σ infs l vs→vs.length=l.length∧ ∀i s,l[i]? =some s→svR σ infs s (vs.getD i undef)
 | [],[],_=>⟨rfl,fun i s h=>by simp at h⟩
 | [],_::_,h=>by simp only[b3H]at h
 |_::_,[],h=>by simp only[b3H]at h
 |a::l,v::vs,h=>by
  simp only[b3H]at h;obtain⟨h1,h2⟩:=c5Q h.2;refine⟨by simp[h1],fun i s hs=> ?_⟩;cases i with
  |zero=>simp only[List.getElem?_cons_zero,Option.some.injEq]at hs;subst hs;exact h.1
  |succ i=>exact h2 i s (by simpa using hs)
theorem c7L: ∀{l:List SV} {t:Nat} {q:Nat×SV},q∈d7V l t→ ∃i,q.1=t+i∧l[i]? =some q.2
 | [],_,_,h=>by cases h
 |a::l,t,q,h=>by
  simp only[d7V]at h;rcases List.mem_cons.1 h with rfl|h
  ·exact⟨0,rfl,rfl⟩
  ·obtain⟨i,h1,h2⟩:=c7L h;exact⟨i+1,by omega,by simpa using h2⟩
theorem b9u{σ:List G}{infs:List (Option Inf)}: ∀{sh:List Sh} {t j:Nat} {vs:List Value},j+(a0F sh).length≤σ.length→b3H σ infs ((b0w sh t j).map Prod.snd) vs→vs=a3e sh (σ.drop j)
 | [],t,j,vs,_,h=>by
  cases vs with
  |nil=>rfl
  |cons v vs=>simp only[b0w,List.map_nil,b3H]at h
 |.d u::l,t,j,vs,hl,h=>by
  simp only[a0F,List.length_cons]at hl;cases vs with
  |nil=>simp only[b0w,List.map_cons,b3H]at h
  |cons v vs=>
   simp only[b0w,List.map_cons,b3H,svR]at h;have hj:j<σ.length:=by omega
   have hd:(σ.drop j).headD .d=σ.getD j .d:=by rw[List.drop_eq_getElem_cons hj,List.headD_cons,getD_of (List.getElem?_eq_getElem hj)]
   simp only[a3e,hd];rw[h.1,b9u (by omega) h.2,List.tail_drop]
 |.st ts::l,t,j,vs,hl,h=>by
  simp only[a0F,List.length_append]at hl;cases vs with
  |nil=>simp only[b0w,List.map_cons,b3H]at h
  |cons v vs=>simp only[b0w,List.map_cons,b3H,svR]at h;simp only[a3e];rw[h.1,b9u (by omega) h.2,List.drop_drop,a6e (by omega)]
theorem c0B{σ:List G}{infs:List (Option Inf)}: ∀{sh:List Sh} {t j:Nat},j+(a0F sh).length≤σ.length→b3H σ infs ((b0w sh t j).map Prod.snd) (a3e sh (σ.drop j))
 | [],t,j,_=>trivial
 |.d u::l,t,j,hl=>by
  simp only[a0F,List.length_cons]at hl;have hj:j<σ.length:=by omega
  have hd:(σ.drop j).headD .d=σ.getD j .d:=by rw[List.drop_eq_getElem_cons hj,List.headD_cons,getD_of (List.getElem?_eq_getElem hj)]
  simp only[b0w,List.map_cons,a3e,b3H,svR,hd];refine⟨trivial, ?_⟩;rw[List.tail_drop];exact c0B (by omega)
 |.st ts::l,t,j,hl=>by simp only[a0F,List.length_append]at hl;simp only[b0w,List.map_cons,a3e,b3H,svR];refine⟨by rw[a6e (by omega)], ?_⟩;rw[List.drop_drop];exact c0B (by omega)
theorem c0I: ∀{n k:Nat} {m:List (Option Nat)},d3D n k m=true→ ∀q,q<n→m[q]? =some (some (k+q))
 |0,_,_,_,q,h=>by omega
 |n+1,k,m,h,q,hq=>by
  cases m with
  |nil=>simp[d3D]at h
  |cons o m=>
   cases o with
   |none=>simp[d3D]at h
   |some i=>
    simp only[d3D]at h;split at h
    ·rename_i h1;have e:=Nat.eq_of_beq_eq_true h1;subst e;cases q with
     |zero=>rfl
     |succ q=>
      have:=c0I h q (by omega);simp only[List.getElem?_cons_succ];rw[this]
      congr 2
      omega
    ·cases h
theorem d1W: ∀{n k q:Nat},q<n→(idM n k)[q]? =some (some (k+q))
 |0,_,q,h=>by omega
 |n+1,k,q,h=>by
  cases q with
  |zero=>rfl
  |succ q=>
   simp only[idM,List.getElem?_cons_succ];rw[d1W (by omega)]
   congr 2
   omega
theorem a9O: ∀{l:List BlS},isCells l=true→ ∀(q:Nat) j jn ts et n,l[q]? ≠some (.lst j jn ts et n)
 | [],_,q,j,jn,ts,et,n=>by simp
 |.cells _ _ _ _::l,h,q,j,jn,ts,et,n=>by
  cases q with
  |zero=>simp
  |succ q=>simp only[List.getElem?_cons_succ];exact a9O (by simpa only[isCells]using h) q j jn ts et n
 |.lst _ _ _ _ _::l,h,_,_,_,_,_,_=>by cases h
def c5s(inv:Nat→List G→Prop)(R:List G→Prop):Res→Prop
 |.goto t σ=>inv t σ|.ret l=>R l
def b6s(inv:Nat→List G→Prop)(mu:Nat→List G→Nat)(R:List G→Prop)(n:Nat):Res→Prop
 |.goto t σ=>inv t σ∧mu t σ<n|.ret l=>R l
def PlG(P:Program)(HD:Nat→Act→World→Prop)(Q:Exit→Act→World→Prop)(body:Code)(pl:Plc)(act:Act)(w:World):Prop:=match pl with
 |.ent=>body.wpIn (Fr none) 0 P Q act w|.lp t=> ∀c K,ctx t body 0 []=some (c,K)→At1 body (.loop c) t K→c.wpIn (Fr none) 0 P (a0S P HD Q (.lp c t::K)) act w|.md r k=> ∀ops K,a8y r body 0 []=some (ops,K)→KOB body K→wpOpsIn (Fr none) 0 P ⟨ops⟩ (a0S P HD Q K) (List.range' (k+1) (ops.length-(k+1))) act w
section
variable{O:List Inf}{L:List Nat}{P:Program}(hng:a6U P)(hm:P.follows .mixedOrders=true){C:Nat→Ct}(hC: ∀c,CtOK P (C c)){fn:Func}{body:Code}{F:FnO}{we:World}{Q:Exit→Act→World→Prop}{HD:Nat→Act→World→Prop}
include hng hm hC
theorem b4p(hO:O.length=F.bl.length)(hob:isCells F.obl=true)(hL: ∀b∈L,b<we.heap.size)(hnt:fn.ntmps≤top)(hnd:(a1t body).Nodup){sg:Sig}{tr:Vt}{pl:Plc}(htm:c4l fn.ntmps sg=true)(hchk:a0x C (b2w P fn.ntmps body fn.results.toList F pl sg) tr (pi0 sg.tys sg.bl)=true){σ:List G}{infs:List (Option Inf)}{act:Act}{w:World}(k:HeadSt O L fn.ntmps sg σ infs we act w){Qr:Res→Prop}(hw:wp C tr σ Qr)
  (hbd: ∀t sg' tr' gs,a0s t F.hd=some (sg',tr')→Qr (.goto t gs)→b1a sg' gs)
  (hbm: ∀h e gs,a0s h F.md=some e→Qr (.goto h gs)→b1a e.sg gs)
  (hgo: ∀t sg' tr' gs infs' act' w',a0s t F.hd=some (sg',tr')→Qr (.goto t gs)→HeadSt O L fn.ntmps sg' gs infs' we act' w'→HD t act' w'∧ ∀c' K',ctx t body 0 []=some (c',K')→(Code.loop c').wpIn (Fr none) 0 P (a0S P HD Q K') act' w')
  (hmi: ∀h e gs infs' act' w',a0s h F.md=some e→Qr (.goto h gs)→HeadSt O L fn.ntmps e.sg gs infs' we act' w'→ ∀ops K',a8y e.r body 0 []=some (ops,K')→KOB body K'→wpOpsIn (Fr none) 0 P ⟨ops⟩ (a0S P HD Q K') (List.range' e.k (ops.length-e.k)) act' w')
  (hret: ∀x gs infs' act' w',e1j x=true→Qr (.ret gs)→HeadSt O L fn.ntmps ⟨a0F F.rs++F.oty,[],F.obl⟩ gs infs' we act' w'→(results fn act'.tmps).run P w'= .ok (a8w F.rs gs) w'→Q x.real act' w'):
  PlG P HD Q body pl act w:=by
 obtain⟨hbl,htm⟩:=b9r htm;have hat0:AtB body body 0 []:=⟨fun t _ _=>rfl,fun r _=>rfl,hnd⟩
 have hlt: ∀b∈L++a1Y infs,b<w.heap.size:=fun b hb=>by
  rcases List.mem_append.1 hb with hb|hb
  ·exact Nat.lt_of_lt_of_le (hL b hb) k.an.wk.size
  ·obtain⟨i,inf,hi,rfl⟩:=a1V.1 hb;exact k.lt i inf hi
 obtain⟨t',p',τ,γ,us,l1,l2,l3,l4,l5⟩:=walk (P:=P) (S:=fun b=>b∈L++a1Y infs) (w:=a0W w (L++a1Y infs)) hC (fun a v hv=>(a4L hlt hv).1) tr hchk (d1H k) hw;unfold b2w at l2;have l4:p'.tys=sg.tys++us:=l4
 letI:Ext:=XK P p'.ke fun b=>b∈L++a1Y infs
 have sim:=k.start hL (fun _=>Iff.rfl) hbl l3 l4
 have tr0:TR ⟨a3w infs,a1s (σ++τ) ([]++γ)⟩ (d0A fn.ntmps sg p'.bs) act.tmps:=c2I k.sz hnt fun q hq=>by obtain⟨q0,hq0,rfl⟩:=List.mem_map.1 hq;exact⟨Nat.lt_of_lt_of_le (htm q0 hq0) hnt,b1M l3 l4 k.ty (k.tm q0 hq0)⟩
 have k0:RSG ⟨w,a3w infs⟩ (a0W w (L++a1Y infs)) (· =a1s (σ++τ) ([]++γ)) fn.ntmps (d0A fn.ntmps sg p'.bs) (d3x sg p') act w:=⟨⟨a3w infs,a1s (σ++τ) ([]++γ)⟩,rfl,tr0,sim,.start,k.sz,k.df⟩
 have beh: ∀{a' H' act' w'},RSG ⟨w,a3w infs⟩ (a0W w (L++a1Y infs)) (· =a1s (σ++τ) ([]++γ)) fn.ntmps a' H' act' w'→ ∃φ,e2e L P p' (fun b=>b∈L++a1Y infs) infs (a1s (σ++τ) ([]++γ)) fn.ntmps w a' H' act' w' φ:=by rintro a' H' act' w' ⟨φ,k1,k2,k3,k4,k5,k6⟩;exact⟨φ,k1,k2,k3,k4.wk,fun k hk hn=>k4.frame k hk hn,k4.pin,k4.own,k5,k6⟩
 have fin: ∀so:SegP,b0z P fn.results.toList F p' (some so) t'=true→GoP P ⟨w,a3w infs⟩ (a0W w (L++a1Y infs)) (· =a1s (σ++τ) ([]++γ)) fn.ntmps body HD Q (d3x sg p') so:=by
  clear l2;intro so l2;cases so with
  |cut t a H=>
   intro act' w' _ kk;obtain⟨φ,b⟩:=beh kk;cases t'<;>try (simp[b0z]at l2;done)
   rename_i h' m xs;simp only[b0z]at l2;split at l2
   ·rename_i sg' tr' e1 e2 e4;have e3:=Nat.eq_of_beq_eq_true e1;subst e3;obtain⟨gs,infs',d1,_,_,d2⟩:=c0j k hL l3 b (fun q hq=>by have:=c0I e4 q (hO▸hq);rwa [Nat.zero_add]at this) l2;simp only[wp]at l5;have hq:=a8t (Q:=fun l=>Qr (.goto t l)) xs l5 d1;exact hgo t sg' tr' gs infs' act' w' e2 hq (d2 (hbd t sg' tr' gs e2 hq))
   ·cases l2
  |mid r kk2 a H=>
   intro act' w' _ kk ops K' hops hK';obtain⟨φ,b⟩:=beh kk;cases t'<;>try (simp[b0z]at l2;done)
   rename_i h' m xs;simp only[b0z]at l2;split at l2
   ·rename_i e he;split at l2
    ·rename_i e1 e2 e4;have e1:=Nat.eq_of_beq_eq_true e1;have e2:=Nat.eq_of_beq_eq_true e2;subst e1 e2;obtain⟨gs,infs',d1,_,_,d2⟩:=c0j k hL l3 b (fun q hq=>by have:=c0I e4 q (hO▸hq);rwa [Nat.zero_add]at this) l2;simp only[wp]at l5;have hq:=a8t (Q:=fun l=>Qr (.goto h' l)) xs l5 d1;exact hmi h' e gs infs' act' w' he hq (d2 (hbm h' e gs he hq)) ops K' hops hK'
    ·cases l2
   ·cases l2
  |out x a H=>
   intro act' w' _ kk;obtain⟨φ,b⟩:=beh kk;cases t'<;>try (simp[b0z]at l2;done)
   rename_i xs;simp only[b0z]at l2;split at l2
   ·rename_i l e1 e2 e4;split at l2
    ·rename_i e3;obtain⟨gs,infs',d1,d2,d3,d4⟩:=c0j k hL l3 b (fun q hq=>by have:=d1W (k:=0) (hO▸hq);rwa [Nat.zero_add]at this) l2;simp only[wp]at l5;exact hret x gs infs' act' w' e1 (a8t (Q:=fun l=>Qr (.ret l)) xs l5 d1) (d4 fun q j jn ts et n hq=>absurd hq (a9O hob q j jn ts et n)) (d2n b e2 e3 (b6v e4) d1 d2 d3)
    ·cases l2
   ·cases l2
 cases pl with
 |ent=>
  show body.wpIn (Fr none) 0 P Q act w;simp only[c9E]at l2;cases hs:c1i P (rcK P p'.ke) (feK P p'.ke) fn.ntmps F.S F.O 1000 body 0 [] (d0A fn.ntmps sg p'.bs) (d3x sg p')with
  |none=>rw[hs]at l2;simp[b0z]at l2
  |some so=>rw[hs]at l2;have:=a1i (HD:=HD) (Q:=Q) hng trivial (e1c hng hm) (c7Q hng hm) hnt (Nat.le_refl _) hat0 (show KOB body []from trivial) hs k0 (fin so l2);exact this
 |lp t=>
  intro c K hc hat;simp only[c9E,hc]at l2;have ht:t<0+nl body∨ ¬t<0+nl body:=Decidable.em _
  obtain⟨hb1,hb2⟩:AtB body (.loop c) t K∧KOB body K:=by
   rcases ht with ht|ht
   ·exact a7h hat0 trivial (Nat.zero_le _) ht hc
   ·exact absurd (a8h hc).2 ht
  cases hs:c1i P (rcK P p'.ke) (feK P p'.ke) fn.ntmps F.S F.O 1000 c (t+1) (.lp c t::K) (d0A fn.ntmps sg p'.bs) (d3x sg p')with
  |none=>rw[hs]at l2;simp[b0z]at l2
  |some so=>rw[hs]at l2;exact a1i (HD:=HD) (Q:=Q) hng trivial (e1c hng hm) (c7Q hng hm) hnt (Nat.le_refl _) hb1.loop.2 (show KOB body (.lp c t::K)from hb2) hs k0 (fin so l2)
 |md r kk=>
  intro ops K hops hK;simp only[c9E,hops]at l2;cases hk1:Nat.ble (kk+1) ops.length with
  |false=>rw[hk1]at l2;simp[b0z]at l2
  |true=>
   rw[hk1]at l2;simp only at l2;cases hs:d9H P (rcK P p'.ke) (feK P p'.ke) fn.ntmps F.S F.O 1000 r ops (kk+1) K (d0A fn.ntmps sg p'.bs) (d3x sg p')with
   |none=>rw[hs]at l2;simp[b0z]at l2
   |some so=>rw[hs]at l2;exact c3i (HD:=HD) (Q:=Q) hng trivial (e1c hng hm) (c7Q hng hm) hnt (Nat.le_refl _) hops hK (Nat.le_of_ble_eq_true hk1) hs k0 (fin so l2)
end
theorem c8w(x:VV):d2g [] x=x:=by
 unfold d2g;split
 ·rfl
 ·rfl
theorem c2L{n:Nat}: ∀{js:List Nat},b7a n js=true→ ∀j∈js,j<n
 | [],_,j,hj=>by cases hj
 |i::js,h,j,hj=>by
  simp only[b7a]at h;split at h
  ·rename_i h1;rcases List.mem_cons.1 hj with rfl|hj
   ·exact a1U h1
   ·exact c2L h j hj
  ·cases h
theorem b9v{σ us:List G}{infs:List (Option Inf)}{sv:SV}{v:Value}(h:e0Z σ.length sv=true)(k:svR σ infs sv v):svR (σ++us) infs sv v:=by
 cases sv with
 |d j=>simp only[svR]at k ⊢;rw[a0N (a1U h)];exact k
 |st js=>
  simp only[svR]at k ⊢;rw[k]
  congr 2
  refine List.map_congr_left fun j hj=> ?_;rw[a0N (c2L h j hj)]
 |p q o=>exact k
 |k x=>exact k
 |fp f q=>exact k
 |own q j jn=>
  rcases k with⟨k1,k2⟩|⟨k1,inf,es,k2,k3,k4⟩
  ·exact .inl ⟨by rw[a0N (getD_lt k1 fun e=>by cases e)];exact k1,k2⟩
  ·exact .inr ⟨by rw[a0N (getD_lt k1 fun e=>by cases e)];exact k1,inf,es,k2,by rw[a0N (getD_lt k3 fun e=>by cases e)];exact k3,k4⟩
 |tu sh j=>
  have hle:=Nat.le_of_ble_eq_true h
  have e:((List.range' j (a0F sh).length).map fun i=>(σ++us).getD i .d)=(List.range' j (a0F sh).length).map fun i=>σ.getD i .d:=by refine List.map_congr_left fun i hi=> ?_;rw[List.mem_range'_1]at hi;rw[a0N (by omega)]
  obtain⟨k1,k2⟩:=k;show TyL _ _∧_;rw[e];exact⟨k1,k2⟩
theorem b1L{n:Nat}: ∀{l:List SV},c3f n l=true→ ∀s∈l,e0Z n s=true
 | [],_,s,hs=>by cases hs
 |a::l,h,s,hs=>by
  simp only[c3f]at h;split at h
  ·rename_i h1;rcases List.mem_cons.1 hs with rfl|hs
   ·exact h1
   ·exact b1L h s hs
  ·cases h
theorem b5z{n:Nat}: ∀{l:List BlS},c4c n l=true→ ∀(q:Nat) c g ro et,l[q]? =some (.cells c g ro et)→c3f n c=true
 | [],_,q,c,g,ro,et,hq=>by simp at hq
 |.cells c' g' ro' et'::l,h,q,c,g,ro,et,hq=>by
  simp only[c4c]at h;split at h
  ·rename_i h1;cases q with
   |zero=>simp only[List.getElem?_cons_zero,Option.some.injEq,BlS.cells.injEq]at hq;obtain⟨rfl,_⟩:=hq;exact h1
   |succ q=>exact b5z h q c g ro et (by simpa using hq)
  ·cases h
 |.lst _ _ _ _ _::l,h,q,c,g,ro,et,hq=>by
  simp only[c4c]at h;cases q with
  |zero=>simp at hq
  |succ q=>exact b5z h q c g ro et (by simpa using hq)
theorem a9Y{d:Nat}: ∀{l:List (Nat×SV)} {q:Nat×SV},q∈b8T d l→q∈l∧q.1≠d
 | [],q,h=>by cases h
 |a::l,q,h=>by
  simp only[b8T]at h;split at h
  ·obtain⟨a1,a2⟩:=a9Y h;exact⟨List.mem_cons_of_mem _ a1,a2⟩
  ·rename_i h1;rcases List.mem_cons.1 h with rfl|h
   ·refine⟨List.mem_cons_self,fun e=> ?_⟩;rw[e,Nat.beq_refl]at h1;cases h1
   ·obtain⟨a1,a2⟩:=a9Y h;exact⟨List.mem_cons_of_mem _ a1,a2⟩
theorem b1j: ∀{sh:List Sh} {us:List G},(a0F sh).length≤us.length→a3e sh (us.take (a0F sh).length)=a3e sh us
 | [],_,_=>rfl
 |.d t::l,us,h=>by
  simp only[a0F,List.length_cons]at h ⊢
  match us,h with
  |u::us,h=>simp only[List.take_succ_cons,a3e,List.headD_cons,List.tail_cons];rw[b1j (by simpa using h)]
 |.st ts::l,us,h=>by simp only[a0F,List.length_append]at h ⊢;simp only[a3e];rw[List.take_take,Nat.min_eq_left (by omega),List.drop_take,show ts.length+(a0F l).length-ts.length=(a0F l).length by omega,b1j (by rw[List.length_drop];omega)]
theorem TyL.take: ∀{ts us:List Ty} {gs:List G},TyL (ts++us) gs→TyL ts (gs.take ts.length)
 | [],us,gs,_=>by simp[TyL]
 |t::ts,us,gs,h=>by
  match gs,h with
  | [],h=>simp[TyL]at h
  |g::gs,h=>simp only[List.cons_append,TyL]at h;simp only[List.length_cons,List.take_succ_cons,TyL];exact⟨h.1,TyL.take h.2⟩
theorem d2p{σ us:List G}{infs:List (Option Inf)}{rs:List Sh}{oty:List Ty}(h:TyL (a0F rs++oty) us):svR (σ++us) infs (d2q rs σ.length) (a8w rs us):=by
 have hl:=h.len;rw[List.length_append]at hl;unfold d2q;split
 ·rename_i t
  match us,h with
  |u::us,_=>simp only[svR,a1W];rfl
  | [],h=>simp[a0F,TyL]at h
 ·rename_i ts;simp only[a0F,List.append_nil]at hl;simp only[svR];rw[a6e (by rw[List.length_append];omega),List.drop_left];rfl
 ·rename_i h1 h2
  have e1:(List.range' σ.length (a0F rs).length).map (fun j=>(σ++us).getD j .d)=us.take (a0F rs).length:=by rw[b6n (by rw[List.length_append];omega),List.drop_left]
  refine⟨?_, ?_⟩
  ·rw[e1];exact TyL.take h
  ·rw[e1,b1j (by omega)];unfold a8w
   have:(a3e rs us).length≠1:=by
    rw[b4b];intro e
    match rs,e with
    | [.d t],_=>exact h1 t rfl
    | [.st ts],_=>exact h2 ts rfl
   match hv:a3e rs us,this with
   | [],_=>rfl
   | [v],h=>simp at h
   |_::_::_,_=>rfl
theorem a1n{O:List Inf}{q:Nat}:a3w (O.map some) q=O[q]? :=by unfold a3w;rw[List.getElem?_map];cases O[q]? <;>rfl
theorem c6g{O:List Inf}{b:Nat}:b∈a1Y (O.map some)↔ ∃o∈O,o.blk=b:=by
 rw[a1V];constructor
 ·rintro⟨i,inf,h1,h2⟩;rw[a1n]at h1;exact⟨inf,List.mem_of_getElem? h1,h2⟩
 ·rintro⟨o,h1,h2⟩;obtain⟨i,hi,h3⟩:=List.getElem_of_mem h1;exact⟨i,o,by rw[a1n,List.getElem?_eq_getElem hi,h3],h2⟩
theorem b4c{n nb:Nat}: ∀{l:List SV},b4d n nb l=true→ ∀s∈l,d9F n nb s=true
 | [],_,s,hs=>by cases hs
 |a::l,h,s,hs=>by
  simp only[b4d]at h;split at h
  ·rename_i h1;rcases List.mem_cons.1 hs with rfl|hs
   ·exact h1
   ·exact b4c h s hs
  ·cases h
theorem c6N{tys:List Ty}: ∀{ts:List Ty} {xs:List VV} {j:Nat} {x:VV},a5C tys ts xs=true→xs[j]? =some x→ ∃t,ts[j]? =some t∧okY tys t x=true
 | [],[],j,x,_,h=>by simp at h
 | [],_::_,_,_,h,_=>by simp[a5C]at h
 |_::_,[],_,_,h,_=>by simp[a5C]at h
 |t::ts,y::xs,j,x,h,hj=>by
  simp only[a5C]at h;split at h
  ·rename_i h1;cases j with
   |zero=>simp only[List.getElem?_cons_zero,Option.some.injEq]at hj;subst hj;exact⟨t,rfl,h1⟩
   |succ j=>obtain⟨t',h2,h3⟩:=c6N h (show xs[j]? =some x by simpa using hj);exact⟨t',by simpa using h2,h3⟩
  ·cases h
section
variable{σ:List G}{β:List (Nat×Nat)}{φ:Phi}{tys ty:List Ty}{xs:List VV}{m:List Nat}{infs:List (Option Inf)}{O:List Inf}
theorem d5A{j:Nat}(h:Nat.blt j xs.length=true): ∃x,xs[j]? =some x∧d5b xs j=x:=by have hj:=a1U h;refine⟨xs[j],List.getElem?_eq_getElem hj, ?_⟩;unfold d5b;rw[a0K,List.getElem?_eq_getElem hj]
theorem c8F(P:Program)(S:Nat→Prop)(w:World)(hφ:φ.ρ=a1s σ β)(ht:TyL tys σ)(hx:a5C tys ty xs=true){j:Nat}(h:Nat.blt j xs.length=true){v:Value}(k:VR φ (d5b xs j) v):v=((xs.map (gG σ)).getD j .d).val:=by obtain⟨x,h1,h2⟩:=d5A h;rw[h2]at k;obtain⟨t,_,h3⟩:=c6N hx h1;have:=b9w (P:=P) (S:=S) (w:=w) (bs:=[]) hφ ht (fun q hq=>by cases hq) h3 (by rw[c8w];exact k);rw[this,getD_of (show(xs.map (gG σ))[j]? =some (gG σ x)by rw[List.getElem?_map,h1];rfl)]
theorem d1r(P:Program)(S:Nat→Prop)(w:World)(hφ:φ.ρ=a1s σ β)(ht:TyL tys σ)(hx:a5C tys ty xs=true)(hO: ∀(q:Nat) b,m[q]? =some b→ ∃inf,O[q]? =some inf∧φ b=some inf){sv:SV}(h:d9F xs.length m.length sv=true){v:Value}(k:VR φ (b3J xs m sv) v):svR (xs.map (gG σ)) (O.map some) sv v:=by
 cases sv with
 |d j=>exact c8F P S w hφ ht hx h k
 |st js=>
  simp only[b3J]at k;rw[VR]at k;obtain⟨cs,c1,rfl⟩:=k;show Value.agg _=Value.agg _;have h:b7a xs.length js=true:=h
  have key: ∀{js:List Nat} {cs:List Value},b7a xs.length js=true→VRs φ (js.map (d5b xs)) cs→cs=js.map fun j=>((xs.map (gG σ)).getD j .d).val:=by
   intro js
   induction js with
   |nil=>intro cs _ hc;simp only[List.map_nil,VRs]at hc;rw[hc];rfl
   |cons j js ih=>
    intro cs hl hc;simp only[b7a]at hl;split at hl
    ·rename_i h1;obtain⟨v,vs,rfl,h2,h3⟩:=a1A (by simpa only[List.map_cons]using hc);rw[c8F P S w hφ ht hx h1 h2,ih hl h3];rfl
    ·cases hl
  rw[key h c1]
 |p q o=>have hq:=a1U h;simp only[b3J,a0K,List.getElem?_eq_getElem hq]at k;obtain⟨inf,h1,h2⟩:=hO q _ (List.getElem?_eq_getElem hq);simp only[VR,AR]at k;obtain⟨a',s,⟨inf',i1,rfl,_⟩,rfl⟩:=k;rw[h2]at i1;cases i1;exact⟨inf,by rw[a1n];exact h1,rfl⟩
 |k x=>exact fun ψ=>c6n h k ψ
 |own q j jn=>cases h
 |tu sh j=>cases h
 |fp f q=>have hq:=a1U h;simp only[b3J,a0K,List.getElem?_eq_getElem hq]at k;obtain⟨inf,h1,h2⟩:=hO q _ (List.getElem?_eq_getElem hq);rw[VR]at k;obtain⟨fs,cs,_,k1,k2,rfl⟩:=k;simp only[VRs]at k1 k2;obtain⟨v,vs,rfl,k3,rfl⟩:=k1;subst k2;simp only[VR,AR]at k3;obtain⟨a',s,⟨inf',i1,rfl,_⟩,rfl⟩:=k3;rw[h2]at i1;cases i1;exact⟨inf,by rw[a1n];exact h1,rfl⟩
theorem c8E(P:Program)(S:Nat→Prop)(w:World)(hφ:φ.ρ=a1s σ β)(ht:TyL tys σ)(hx:a5C tys ty xs=true)(hO: ∀(q:Nat) b,m[q]? =some b→ ∃inf,O[q]? =some inf∧φ b=some inf): ∀{l:List SV} {vs:List Value},b4d xs.length m.length l=true→VRs φ (l.map (b3J xs m)) vs→b3H (xs.map (gG σ)) (O.map some) l vs
 | [],vs,_,k=>by simp only[List.map_nil,VRs]at k;rw[k];trivial
 |s::l,vs,h,k=>by
  simp only[b4d]at h;split at h
  ·rename_i h1;obtain⟨v,vs',rfl,k1,k2⟩:=a1A (by simpa only[List.map_cons]using k);exact⟨d1r P S w hφ ht hx hO h1 k1,c8E P S w hφ ht hx hO h k2⟩
  ·cases h
end
theorem d6T{σ us:List G}{infs:List (Option Inf)}{O:List Inf}{m:List Nat}{nb:Nat}(hl:nb=us.length)(hO: ∀(q:Nat) b,m[q]? =some b→ ∃inf,O[q]? =some inf∧a3w infs b=some inf){sv:SV}(h:d9F nb m.length sv=true){v:Value}(k:svR us (O.map some) sv v):svR (σ++us) infs (d5N σ.length m sv) v:=by
 have gd: ∀j,(σ++us).getD (σ.length+j) .d=us.getD j .d:=fun j=>by rw[List.getD_eq_getElem?_getD,List.getElem?_append_right (by omega),Nat.add_sub_cancel_left,List.getD_eq_getElem?_getD]
 cases sv with
 |d j=>simp only[d5N,svR]at k ⊢;rw[gd];exact k
 |st js=>
  simp only[d5N,svR,List.map_map]at k ⊢;rw[k]
  congr 2
  refine List.map_congr_left fun j hj=> ?_;show _=((σ++us).getD (σ.length+j) .d).val;rw[gd]
 |p q o=>have hq:=a1U h;simp only[d5N,a0K,List.getElem?_eq_getElem hq];obtain⟨inf,h1,h2⟩:=hO q _ (List.getElem?_eq_getElem hq);obtain⟨inf',k1,rfl⟩:=k;rw[a1n,h1]at k1;cases k1;exact⟨inf,h2,rfl⟩
 |k x=>exact k
 |own q j jn=>cases h
 |tu sh j=>cases h
 |fp f q=>have hq:=a1U h;simp only[d5N,a0K,List.getElem?_eq_getElem hq];obtain⟨inf,h1,h2⟩:=hO q _ (List.getElem?_eq_getElem hq);obtain⟨inf',k1,rfl⟩:=k;rw[a1n,h1]at k1;cases k1;exact⟨inf,h2,rfl⟩
theorem b6f: ∀{is:List Nat} {bs l:List BlS} {q:Nat} {b:BlS},is.Nodup→is.length=bs.length→(a7E l is bs)[q]? =some b→(∃i:Nat,is[i]? =some q∧bs[i]? =some b∧q<l.length)∨(q∉is∧l[q]? =some b)
 | [],[],l,q,b,_,_,h=>.inr ⟨by simp,by simpa only[a7E]using h⟩
 | [],_::_,_,_,_,_,h,_=>by simp at h
 |_::_,[],_,_,_,_,h,_=>by simp at h
 |i::is,c::bs,l,q,b,hn,hl,h=>by
  simp only[a7E]at h;obtain⟨n1,n2⟩:=List.nodup_cons.1 hn;rcases b6f n2 (by simpa using hl) h with⟨j,h1,h2,h3⟩|⟨h1,h2⟩
  ·exact .inl ⟨j+1,by simpa using h1,by simpa using h2,by simpa using h3⟩
  ·by_cases e:q=i
   ·subst e;rw[List.getElem?_set]at h2;rw[if_pos rfl]at h2;split at h2
    ·rename_i hlt;exact .inl ⟨0,rfl,by simpa using h2,hlt⟩
    ·cases h2
   ·rw[List.getElem?_set_ne (fun h=>e h.symm)]at h2;exact .inr ⟨by simp[e,h1],h2⟩
theorem b3o: ∀{is:List Nat} {bs l:List BlS},(a7E l is bs).length=l.length
 | [],bs,l=>by unfold a7E;rfl
 |_::_,[],l=>by unfold a7E;rfl
 |i::is,c::bs,l=>by simp only[a7E];rw[b3o,List.length_set]
theorem c6P{n nb:Nat}: ∀{l:List BlS} {q:Nat} {b:BlS},d9X n nb l=true→l[q]? =some b→ ∃c g ro et,b= .cells c g ro et∧b4d n nb c=true
 | [],q,b,_,h=>by simp at h
 |.lst _ _ _ _ _::_,_,_,h,_=>by cases h
 |.cells c g ro et::l,q,b,h,hq=>by
  simp only[d9X]at h;split at h
  ·rename_i h1;cases q with
   |zero=>simp only[List.getElem?_cons_zero,Option.some.injEq]at hq;exact⟨c,g,ro,et,hq.symm,h1⟩
   |succ q=>exact c6P h (by simpa using hq)
  ·cases h
theorem c3E{sg:Sig}{xs:List VV}{m:List Nat}: ∀{l:List BlS} {is:List Nat},c4d sg xs m l is=true→is.length=l.length∧ ∀(q:Nat) b i,l[q]? =some b→is[q]? =some i→ ∃b',sg.bl[i]? =some b'∧d8R sg.tys xs m b (some b')=true
 | [],[],_=>⟨rfl,fun q b i h=>by simp at h⟩
 | [],_::_,h=>by simp[c4d]at h
 |_::_,[],h=>by simp[c4d]at h
 |b::l,i::is,h=>by
  simp only[c4d]at h;split at h
  ·rename_i h1;obtain⟨h2,h3⟩:=c3E h;refine⟨by simp[h2],fun q b' i' hb hi=> ?_⟩;cases q with
   |zero=>
    simp only[List.getElem?_cons_zero,Option.some.injEq]at hb hi;subst hb hi;rw[a0K]at h1;cases hs:sg.bl[i]? with
    |none=>rw[hs]at h1;unfold d8R at h1;split at h1<;>first|cases h1|(rename_i e;cases e)
    |some b'=>exact⟨b',rfl,by rw[hs]at h1;exact h1⟩
   |succ q=>exact h3 q b' i' (by simpa using hb) (by simpa using hi)
  ·cases h
section
variable{O:List Inf}{L:List Nat}{P:Program}(hng:a6U P){D:Nat→Co}{nt:Nat}{body:Code}{we w:World}{act:Act}{σ:List G}{infs:List (Option Inf)}
include hng
theorem d4o(hL: ∀b∈L,b<we.heap.size)(hnt:nt≤top){e:MdO}{dst:Option Nat}(hc:b5u P D nt body e=some dst)(htm:c4l nt e.sg=true)(htm2:c4l nt (c8d e.sg dst e.m (D e.c))=true)(hD:CoOK P (D e.c))(k:HeadSt O L nt e.sg σ infs we act w)(hpre:(D e.c).pre (e.xs.map (gG σ))){ops:List Oper}{K:List Fr1}(hops:a8y e.r body 0 []=some (ops,K)){Q':Exit→Act→World→Prop}
  (hP:(D e.c).pan (e.xs.map (gG σ))→ ∀w',AncO O we w'→Q' (.panic (a7N (D e.c).pv)) act w')
  (hQ: ∀us act' w',(D e.c).post (e.xs.map (gG σ)) us→TyL (a0F (D e.c).rs++(D e.c).oty) us→HeadSt O L nt (c8d e.sg dst e.m (D e.c)) (σ++us) infs we act' w'→wpOpsIn (Fr none) 0 P ⟨ops⟩ Q' (List.range' (e.k+1) (ops.length-(e.k+1))) act' w'):
  wpOpsIn (Fr none) 0 P ⟨ops⟩ Q' (List.range' e.k (ops.length-e.k)) act w:=by
 obtain⟨hbl,htm⟩:=b9r htm;obtain⟨_,htm2⟩:=b9r htm2;unfold b5u at hc;rw[hops]at hc;simp only at hc;split at hc
 ·rename_i o ho;split at hc
  ·rename_i f args hg he;split at hc
   ·rename_i e1 e2 e3 e3';split at hc
    ·rename_i e4 e5 e6 e7 e8 e9;cases hc;have e1:=Nat.eq_of_beq_eq_true e1;have e2:=vvsEq_eq _ _ e2;have e7:=a8H e7;have e9:=Nat.eq_of_beq_eq_true e9;obtain⟨f1,f2⟩:=c3E e6;subst e1;rw[a0K]at ho;have hlt:=(List.getElem?_eq_some_iff.1 ho).1
     have er:List.range' e.k (ops.length-e.k)=e.k::List.range' (e.k+1) (ops.length-(e.k+1)):=by rw[show ops.length-e.k=(ops.length-(e.k+1))+1 by omega,List.range'_succ]
     rw[er];have p0:=d1H (P:=P) (S:=fun b=>b∈L++a1Y infs) k;have p1:PIok P (fun b=>b∈L++a1Y infs) (a0W w (L++a1Y infs)) (σ++ []) [] (pi0 e.sg.tys e.sg.bl):=by rw[List.append_nil];exact p0
     have e0:(pi0 e.sg.tys e.sg.bl).tys=e.sg.tys++ []:=by rw[List.append_nil];rfl
     letI:Ext:=XK P (pi0 e.sg.tys e.sg.bl).ke fun b=>b∈L++a1Y infs
     have sim:=k.start hL (fun _=>Iff.rfl) hbl p1 e0
     have tr0:TR ⟨a3w infs,a1s (σ++ []) []⟩ (d0A nt e.sg []) act.tmps:=c2I k.sz hnt fun q hq=>by obtain⟨q0,hq0,rfl⟩:=List.mem_map.1 hq;exact⟨Nat.lt_of_lt_of_le (htm q0 hq0) hnt,b1M (p:=pi0 e.sg.tys e.sg.bl) p1 e0 k.ty (k.tm q0 hq0)⟩
     have hs:=a9j (b2o hng tr0 sim o);rw[show(evE P o.op (d0A nt e.sg []) ⟨(pi0 e.sg.tys e.sg.bl).env,b3O (e.sg.bl.map (d1p (pi0 e.sg.tys e.sg.bl).bs e.sg.tys)) 0 .lf,e.sg.bl.length⟩).get= .enter (D e.c).f args from he]at hs;obtain⟨vs,h1,h2⟩:=hs;rw[e2]at h2
     have infA: ∀(q:Nat) i,e.m[q]? =some i→ ∃inf,a3w infs i=some inf:=fun q i hi=>by
      have hq:=(List.getElem?_eq_some_iff.1 hi).1;obtain⟨b',g1,g2⟩:=f2 q _ i (List.getElem?_eq_getElem (by omega)) hi;have hb:=k.bl i b' g1;generalize (D e.c).bl[q]=bb at g2;unfold d8R at g2;split at g2
      ·rename_i h3;cases h3;obtain⟨inf,h4,_⟩:=hb;exact⟨inf,h4⟩
      ·cases g2
     let Oc:List Inf:=e.m.map fun i=>(a3w infs i).getD ⟨0,0,0⟩
     have ocA: ∀(q:Nat) i,e.m[q]? =some i→ ∃inf,Oc[q]? =some inf∧a3w infs i=some inf:=fun q i hi=>by obtain⟨inf,h3⟩:=infA q i hi;refine⟨inf, ?_,h3⟩;show(e.m.map _)[q]? =_;rw[List.getElem?_map,hi];simp[h3]
     have ocB: ∀(q:Nat) inf,Oc[q]? =some inf→ ∃i,e.m[q]? =some i∧a3w infs i=some inf:=fun q inf hq=>by have hq':(e.m.map _)[q]? =some inf:=hq;rw[List.getElem?_map,Option.map_eq_some_iff]at hq';obtain⟨i,h3,_⟩:=hq';obtain⟨inf',h4,h5⟩:=ocA q i h3;rw[hq]at h4;cases h4;exact⟨i,h3,h5⟩
     have hOc:Oc.length=(D e.c).bl.length:=by show(e.m.map _).length=_;rw[List.length_map,f1]
     have argR:=c8E P (fun b=>b∈L++a1Y infs) w (φ:=⟨a3w infs,a1s (σ++ []) []⟩) (σ:=σ++ []) (β:=[]) (O:=Oc) rfl p1.ty e3 (fun q b hq=>ocA q b hq) e3' h2;rw[List.append_nil]at argR;obtain⟨ty,gm⟩:=c0M k.ty e3
     have hLw: ∀b∈L++a1Y infs,b<w.heap.size:=fun b hb=>by
      rcases List.mem_append.1 hb with hb|hb
      ·exact Nat.lt_of_lt_of_le (hL b hb) k.an.wk.size
      ·obtain⟨i,inf,hi,rfl⟩:=a1V.1 hb;exact k.lt i inf hi
     have ocIn: ∀b∈a1Y (Oc.map some),b∈a1Y infs:=fun b hb=>by obtain⟨q,inf,hq,rfl⟩:=a1V.1 hb;rw[a1n]at hq;obtain⟨i,_,h4⟩:=ocB q inf hq;exact a1V.2 ⟨i,inf,h4,rfl⟩
     have hobj:ObjSt w Oc (e.xs.map (gG σ)) (D e.c).bl:=by
      refine⟨hOc,fun q b hq=> ?_,fun i j o1 o2 h3 h4 h5=> ?_,fun o1 ho1=> ?_⟩
      ·have hlt:=(List.getElem?_eq_some_iff.1 hq).1;obtain⟨i,hi⟩: ∃i,e.m[q]? =some i:=⟨_,List.getElem?_eq_getElem (by omega)⟩;obtain⟨b',g1,g2⟩:=f2 q b i hq hi;have hb:=k.bl i b' g1;obtain⟨inf,i1,i2⟩:=ocA q i hi;unfold d8R at g2;split at g2
       ·rename_i c g ro et c' g' ro' et' h3;cases h3;split at g2
        ·rename_i q1 q2 q3 q4;obtain⟨inf',j1,c0,e',fr,s1,s2,s3,s4,s5,s6⟩:=hb;rw[i2]at j1;cases j1;have eg:=a2O q1;subst eg;have ec:=vvsEq_eq _ _ g2
         have el:c'.length=c.length:=by have:=congrArg List.length ec;simpa using this
         refine⟨inf,by rw[a1n];exact i1,c0,e',fr,s1,by rw[←el];exact s2,s3,fun j sv hj=> ?_, ?_,fun t ht=> ?_⟩
         ·have hjl:=(List.getElem?_eq_some_iff.1 hj).1;obtain⟨sv',hj'⟩: ∃sv',c'[j]? =some sv':=⟨_,List.getElem?_eq_getElem (by omega)⟩;obtain⟨y,y1,y2⟩:=s4 j sv' hj';refine⟨y,y1, ?_⟩;have hv:=b1M (p:=pi0 e.sg.tys e.sg.bl) p1 e0 k.ty y2
          have ev:c8W (pi0 e.sg.tys e.sg.bl).bs e.sg.tys sv'=b3J e.xs e.m sv:=by
           have h6:(c'.map (c8W [] e.sg.tys))[j]? =(c.map (b3J e.xs e.m))[j]? :=by rw[ec]
           rw[List.getElem?_map,List.getElem?_map,hj,hj']at h6;exact(Option.some.inj h6:c8W [] e.sg.tys sv'=b3J e.xs e.m sv)
          rw[ev]at hv;have:=d1r P (fun b=>b∈L++a1Y infs) w (O:=Oc) rfl p1.ty e3 (fun q b hq=>ocA q b hq) (b4c q4 sv (List.mem_of_getElem? hj)) hv;rw[List.append_nil]at this;exact this
         ·have:=Nat.le_of_ble_eq_true q2;omega
         ·obtain⟨t1,t2⟩:=s6 t (a6F q3 t ht);exact⟨t1,by rw[←el];exact t2⟩
        ·cases g2
       ·cases g2
      ·obtain⟨a1,b1,c1⟩:=ocB i o1 h3;obtain⟨a2,b2,c2⟩:=ocB j o2 h4;have:=k.nd a1 a2 o1 o2 c1 c2 h5;subst this;exact(List.getElem?_inj (List.getElem?_eq_some_iff.1 b1).1 e7).1 (b1.trans b2.symm)
      ·obtain⟨q,hq,h3⟩:=List.getElem_of_mem ho1;obtain⟨i,_,h4⟩:=ocB q o1 (by rw[List.getElem?_eq_getElem hq,h3]);exact k.lt i o1 h4
     have subA: ∀w1:World,(∀b∈L++a1Y infs,b<w1.heap.size)→Sub (a0W w1 (L++a1Y infs)) (a0W w1 (L++a1Y infs++a1Y (Oc.map some))):=fun w1 hw1=>a4W (S:=fun b=>b∈L++a1Y infs) hw1 (fun _=>Iff.rfl) (Nat.le_refl _) (fun _ _ _=>rfl) fun q hq=>by
      rcases List.mem_append.1 hq with hq|hq
      ·exact .inl hq
      ·exact .inl (List.mem_append_right _ (ocIn q hq))
     have e0a: ∀w1:World,(∀b∈L++a1Y infs,b<w1.heap.size)→Sub (a0W w1 (L++a1Y infs++a1Y (Oc.map some))) (a0W w1 (L++a1Y infs)):=fun w1 hw1=>a4W (S:=fun b=>b∈L++a1Y infs++a1Y (Oc.map some)) (fun b hb=>by
      rcases List.mem_append.1 hb with hb|hb
      ·exact hw1 b hb
      ·exact hw1 b (List.mem_append_right _ (ocIn b hb))) (fun _=>Iff.rfl) (Nat.le_refl _) (fun _ _ _=>rfl) fun q hq=>.inl (List.mem_append_left _ hq)
     have hcall:=hD.ok w _ Oc (L++a1Y infs) vs hLw hobj ty ((gm _ k.mem).sub (subA w hLw)) argR hpre;have hget:(⟨ops⟩:Array Oper)[e.k]? =some o:=by simpa using ho
     simp only[wpOpsIn,hget];rw[if_pos (by simp[Region.wanted,hg])];refine⟨fun _ _=>trivial, ?_⟩;show o.uponIn (Fr none) 0 P act _ Q' ((o.semAt none act.eval).run P w);rw[Oper.semAt_none,h1];refine⟨(fun h=>by cases h), ?_⟩;refine a6r.2 (hcall.mono ?_);rintro en w' ⟨an,hend⟩
     have anO:AncO O we w':=⟨k.an.wk.trans an.wk,fun q hq hno=>by
      rw[an.old q (Nat.lt_of_lt_of_le hq k.an.wk.size) fun o1 ho1 heq=> ?_,k.an.old q hq hno];obtain⟨q1,hq1,h3⟩:=List.getElem_of_mem ho1;obtain⟨i,_,h4⟩:=ocB q1 o1 (by rw[List.getElem?_eq_getElem hq1,h3]);rcases k.ge i o1 h4 with⟨q4,o4,g4,g5⟩|hge
      ·exact hno o4 (List.mem_of_getElem? g4) (g5.trans heq)
      ·omega⟩
     rcases hend with⟨us,u1,rfl,u3,u4,u5⟩|⟨pn,rfl⟩
     ·refine hQ us _ w' u1 u3 ?_;have hlen:e.sg.tys.length=σ.length:=k.ty.len.symm;rw[hlen]at e4 e5;have hLw': ∀b∈L++a1Y infs,b<w'.heap.size:=fun b hb=>Nat.lt_of_lt_of_le (hLw b hb) an.wk.size;have sub:Sub (a0W w (L++a1Y infs)) (a0W w' (L++a1Y infs)):=a4W (S:=fun b=>b∈L++a1Y infs) hLw (fun b=>Iff.rfl) an.wk.size (fun q hq hno=>an.old q hq fun o1 ho1 heq=>hno (List.mem_append_right _ (ocIn _ (c6g.2 ⟨o1,ho1,heq⟩)))) fun q hq=>.inl hq;have hus:(a0F (D e.c).rs++(D e.c).oty).length=us.length:=u3.len.symm;refine⟨by rw[b6p];exact k.sz,by rw[b1z];exact k.df,fun q hq=> ?_, ?_,fun q b hq=> ?_,k.nd,k.ge,fun i inf hi=>Nat.lt_of_lt_of_le (k.lt i inf hi) an.wk.size,TyL.app k.ty u3,GML.app (k.mem.sub sub) (u4.sub (e0a w' hLw')),anO,k.pin⟩
      ·have hrs:TyL (a0F (D e.c).rs++(D e.c).oty) us:=u3;cases hd:o.dst with
       |none=>rw[hd]at hq;exact b9v (b1L e4 _ (List.mem_map.2 ⟨q,hq,rfl⟩)) (k.tm q hq)
       |some d=>
        rw[hd]at hq htm2;rcases List.mem_cons.1 hq with rfl|hq
        ·rw[b6q (by rw[k.sz];exact htm2 (d,_) List.mem_cons_self),hlen];exact d2p u3
        ·obtain⟨q1,q2⟩:=a9Y hq;rw[b3q q2];exact b9v (b1L e4 _ (List.mem_map.2 ⟨q,q1,rfl⟩)) (k.tm q q1)
      ·show infs.length=(a7E _ _ _).length;rw[b3o];exact k.il
      ·rcases b6f e7 (by rw[List.length_map];exact e9.symm) hq with⟨i,g1,g2,g3⟩|⟨g1,g2⟩
       ·rw[List.getElem?_map,Option.map_eq_some_iff]at g2;obtain⟨b0,b1,rfl⟩:=g2;obtain⟨c,g,ro,et,rfl,q4⟩:=c6P e8 b1;obtain⟨inf,i1,c0,e',fr,s1,s2,s3,s4,s5,s6⟩:=u5.ok i _ b1;rw[a1n]at i1;obtain⟨i2,j1,j2⟩:=ocB i inf i1;rw[g1]at j1;cases j1;refine⟨inf,j2,c0,e',fr,s1,by rw[List.length_map];exact s2,s3,fun j sv hj=> ?_,s5,fun t ht=> ?_⟩
        ·rw[List.getElem?_map,Option.map_eq_some_iff]at hj;obtain⟨sv0,v1,rfl⟩:=hj;obtain⟨y,y1,y2⟩:=s4 j sv0 v1;refine⟨y,y1, ?_⟩;rw[hlen];exact d6T hus (fun q b hq=>ocA q b hq) (b4c q4 sv0 (List.mem_of_getElem? v1)) y2
        ·obtain⟨t1,t2⟩:=s6 t ht;exact⟨t1,by rw[List.length_map];exact t2⟩
       ·have hb:=k.bl q b g2
        have same: ∀inf,a3w infs q=some inf→w'.heap[inf.blk]? =w.heap[inf.blk]? :=fun inf hi=>an.old _ (k.lt q inf hi) fun o1 ho1 heq=>by obtain⟨q1,hq1,h3⟩:=List.getElem_of_mem ho1;obtain⟨i,h4,h5⟩:=ocB q1 o1 (by rw[List.getElem?_eq_getElem hq1,h3]);have:=k.nd i q o1 inf h5 hi heq;subst this;exact g1 (List.mem_of_getElem? h4)
        cases b with
        |cells c g ro et=>
         obtain⟨inf,i1,c',e',fr,g1,g2',g3,g4,g5,g6⟩:=hb;have hin:=b5z e5 q c g ro et g2
         exact⟨inf,i1,c',e',fr,by rw[same inf i1];exact g1,g2',g3,fun j sv hj=>by
          obtain⟨y,y1,y2⟩:=g4 j sv hj
          exact⟨y,y1,b9v (b1L hin sv (List.mem_of_getElem? hj)) y2⟩,g5,g6⟩
        |lst j jn ts et n=>
         rcases hb with⟨a1,a2,a3⟩|⟨a1,inf,es,a2,a3,a4,c',e',fr,cs,g1,g2⟩
         ·exact .inl ⟨by rw[a0N (getD_lt a1 fun e=>by cases e)];exact a1,a2,by rw[a0N (getD_lt a3 fun e=>by cases e)];exact a3⟩
         ·exact .inr ⟨by rw[a0N (getD_lt a1 fun e=>by cases e)];exact a1,inf,es,a2,by rw[a0N (getD_lt a3 fun e=>by cases e)];exact a3,a4,c',e',fr,cs,by rw[same inf a2];exact g1,g2⟩
     ·exact hP pn w' anO
    ·cases hc
   ·cases hc
  ·cases hc
 ·cases hc
end
theorem c3L{P:Program}{C:Nat→Ct}{nt:Nat}{body:Code}{res:List ResultVar}{F:FnO}: ∀{l:List (Nat×Sig×Vt)},d0e P C nt body res F l=true→ ∀q∈l,c4l nt q.2.1=true∧a0x C (b2w P nt body res F (.lp q.1) q.2.1) q.2.2 (pi0 q.2.1.tys q.2.1.bl)=true
 | [],_,q,hq=>by cases hq
 |x::l,h,q,hq=>by
  simp only[d0e]at h;split at h
  ·rename_i d1 d2;rcases List.mem_cons.1 hq with rfl|hq
   ·exact⟨d1,d2⟩
   ·exact c3L h q hq
  ·cases h
theorem c3K{P:Program}{C:Nat→Ct}{D:Nat→Co}{nt:Nat}{body:Code}{res:List ResultVar}{F:FnO}: ∀{l:List (Nat×MdO)},d0d P C D nt body res F l=true→ ∀q∈l,∃dst,b5u P D nt body q.2=some dst∧c4l nt q.2.sg=true∧c4l nt (c8d q.2.sg dst q.2.m (D q.2.c))=true∧a0x C (b2w P nt body res F (.md q.2.r q.2.k) (c8d q.2.sg dst q.2.m (D q.2.c))) q.2.tr (pi0 (c8d q.2.sg dst q.2.m (D q.2.c)).tys (c8d q.2.sg dst q.2.m (D q.2.c)).bl)=true
 | [],_,q,hq=>by cases hq
 |x::l,h,q,hq=>by
  simp only[d0d]at h;split at h
  ·rename_i dst hd;split at h
   ·rename_i d1 d2 d3;rcases List.mem_cons.1 hq with rfl|hq
    ·exact⟨dst,hd,d1,d2,d3⟩
    ·exact c3K h q hq
   ·cases h
  ·cases h
theorem a4Y{P:Program}{HD:Nat→Act→World→Prop}{Q:Exit→Act→World→Prop}{c:List PanicEntry}{act:Act}{w:World}(h:Q (.panic c) act w): ∀K:List Fr1,a0S P HD Q K (.panic c) act w
 | []=>h
 |.sq y n::K=>by simp only[a0S,Exit.then];exact a4Y h K
 |.bk id::K=>by simp only[a0S,Exit.inBlock];exact a4Y h K
 |.lp c n::K=>by simp only[a0S,Exit.then];exact a4Y h K
theorem b3g{P:Program}{f:FuncId}{fn:Func}{c:Code}{args':List Value}{w:World}{R:Ending→World→Prop}(hf:P.funcs[f]? =some fn)(hc:fn.body=some c)
  (h:c.wpIn (Fr none) 0 P (fun e act' w'=>((e= .ret∨e= .normal)∧act'.defers= []∧ ∃v,(results fn act'.tmps).run P w'= .ok v w'∧R (.returned v) w')∨(∃ch,e= .panic ch∧act'.defers= []∧R (.panicked ch) w')) {tmps:=(⟨args'⟩:Array Value)++Array.replicate (fn.ntmps-(⟨args'⟩:Array Value).size) undef,defers:=[]} w):Calls P f ⟨args'⟩ w R:=by
 refine(callsIn_wide (n:=0)).1 (callsIn_of_wp_marks hf hc trivial (wpIn_mono h ?_));rintro e act' w' (⟨he,hd,v,hr,hR⟩|⟨ch,rfl,hd,hR⟩)
 ·rcases he with rfl|rfl
  ·show LeavesInM Fence.wide 0 P fn act'.tmps _ act'.defers .returning w';rw[hd];exact⟨v,hr,hR⟩
  ·show LeavesInM Fence.wide 0 P fn act'.tmps _ act'.defers .returning w';rw[hd];exact⟨v,hr,hR⟩
 ·show LeavesInM Fence.wide 0 P fn act'.tmps _ act'.defers (.panicking ch) w';rw[hd];exact hR
section
variable{P:Program}(hng:a6U P)(hm:P.follows .mixedOrders=true){C:Nat→Ct}(hC: ∀c,CtOK P (C c)){D:Nat→Co}(hD: ∀c,CoOK P (D c)){fn:Func}{F:FnO}
include hng hm hC hD
theorem b8F{f:FuncId}(hf:P.funcs[f]? =some fn)(hchk:a2H P C D fn F=true)(inv:Nat→List G→Prop)(mu:Nat→List G→Nat)(R:List G→Prop)(Pn:Prop)(pv:Value){gs0:List G}
  (h0:wp C F.ent gs0 (c5s inv R))
  (hbd: ∀q∈F.hd,∀σ,inv q.1 σ→b1a q.2.1 σ)
  (hbm: ∀q∈F.md,∀σ,inv q.1 σ→b1a q.2.sg σ)
  (hh: ∀q∈F.hd,∀σ,TyL q.2.1.tys σ→inv q.1 σ→wp C q.2.2 σ (b6s inv mu R (mu q.1 σ)))
  (hd: ∀q∈F.md,∀σ,TyL q.2.sg.tys σ→inv q.1 σ→(D q.2.c).pre (q.2.xs.map (gG σ))∧((D q.2.c).pan (q.2.xs.map (gG σ))→Pn∧(D q.2.c).pv=pv)∧ ∀us,(D q.2.c).post (q.2.xs.map (gG σ)) us→TyL (a0F (D q.2.c).rs++(D q.2.c).oty) us→wp C q.2.tr (σ++us) (b6s inv mu R (mu q.1 σ)))
  {w:World} {O:List Inf} {L:List Nat} {vs:List Value} (hL: ∀b∈L,b<w.heap.size) (hO:ObjSt w O gs0 F.bl) (ty0:TyL F.ty gs0) (m0:GML (a0W w (L++a1Y (O.map some))) gs0) (ha:b3H gs0 (O.map some) F.ia vs):
  Calls P f ⟨vs⟩ w fun e w'=>AncO O w w'∧((∃us,R us∧e= .returned (a8w F.rs us)∧TyL (a0F F.rs++F.oty) us∧GML (a0W w' (L++a1Y (O.map some))) us∧ObjSt w' O us F.obl)∨(Pn∧e= .panicked (a7N pv))):=by
 unfold a2H at hchk;split at hchk
 ·rename_i body hb;split at hchk
  ·rename_i c1 c2 c3 tl0 c4;split at hchk
   ·rename_i c5 hob hol;have hnt:=Nat.le_of_ble_eq_true c1;have hps:=Nat.le_of_ble_eq_true c2;have hnd:=a8H c3;have hallH:=c3L c5;have hallM:=c3K hchk;have hol:=Nat.eq_of_beq_eq_true hol
    let Rr:Ending→World→Prop:=fun e w'=>AncO O w w'∧((∃us,R us∧e= .returned (a8w F.rs us)∧TyL (a0F F.rs++F.oty) us∧GML (a0W w' (L++a1Y (O.map some))) us∧ObjSt w' O us F.obl)∨(Pn∧e= .panicked (a7N pv)))
    let Q:Exit→Act→World→Prop:=fun e act' w'=>((e= .ret∨e= .normal)∧act'.defers= []∧ ∃v,(results fn act'.tmps).run P w'= .ok v w'∧Rr (.returned v) w')∨(∃ch,e= .panic ch∧act'.defers= []∧Rr (.panicked ch) w')
    have hret: ∀{Qr:Res→Prop},(∀l,Qr (.ret l)→R l)→ ∀x gs infs' act' w',e1j x=true→Qr (.ret gs)→HeadSt O L fn.ntmps ⟨a0F F.rs++F.oty,[],F.obl⟩ gs infs' w act' w'→(results fn act'.tmps).run P w'= .ok (a8w F.rs gs) w'→Q x.real act' w':=by
     intro Qr hQ x gs infs' act' w' hx hq hst hr
     have ei:infs'=O.map some:=by
      refine List.ext_getElem? fun q=> ?_
      have hl:infs'.length=O.length:=by rw[hst.il,hO.len];exact hol
      rw[List.getElem?_map];cases hq:O[q]? with
      |none=>have:=List.getElem?_eq_none_iff.1 hq;rw[List.getElem?_eq_none (by omega)];rfl
      |some o=>exact c0h (hst.pin q o hq)
     subst ei;refine .inl ⟨?_,hst.df,_,hr,hst.an,.inl ⟨gs,hQ gs hq,rfl,hst.ty,hst.mem,⟨by rw[hO.len];exact hol.symm,fun q b hq=>hst.bl q b hq,hO.nd,fun o ho=> ?_⟩⟩⟩
     ·cases x with
      |ret=>exact .inl rfl
      |normal=>exact .inr rfl
      |exit e=>cases hx
     ·exact Nat.lt_of_lt_of_le (hO.lt o ho) hst.an.wk.size
    let I:Nat→Nat→Act→World→Prop:=fun k t act' w'=> ∃sg tr σ infs,a0s t F.hd=some (sg,tr)∧inv t σ∧mu t σ=k∧HeadSt O L fn.ntmps sg σ infs w act' w'
    have mids: ∀(HD:Nat→Act→World→Prop) (Ok:Nat→Prop),(∀a b,a<b→Ok b→Ok a)→(∀t' act' w',(∃j,Ok j∧I j t' act' w')→HD t' act' w'∧ ∀c' K',ctx t' body 0 []=some (c',K')→(Code.loop c').wpIn (Fr none) 0 P (a0S P HD Q K') act' w')→
      ∀n,Ok n→ ∀h e gs infs' act' w',a0s h F.md=some e→inv h gs→mu h gs=n→HeadSt O L fn.ntmps e.sg gs infs' w act' w'→ ∀ops K',a8y e.r body 0 []=some (ops,K')→KOB body K'→wpOpsIn (Fr none) 0 P ⟨ops⟩ (a0S P HD Q K') (List.range' e.k (ops.length-e.k)) act' w':=by
     intro HD Ok hdn hHD n
     induction n using Nat.strongRecOn with
     |_ n ih=>
      intro hok h e gs infs' act' w' he hi hmu hst ops K' hops hK;have hem:=a0h he;obtain⟨dst,m1,m2,m3,m4⟩:=hallM _ hem;obtain⟨q1,qp,q2⟩:=hd _ hem gs hst.ty hi;subst hmu;refine d4o hng hL hnt m1 m2 m3 (hD e.c) hst q1 hops (fun hp w2 an=> ?_) fun us act2 w2 u1 u2 u3=> ?_
      ·obtain⟨p1,p2⟩:=qp hp;rw[p2];exact a4Y (.inr ⟨_,rfl,hst.df,an,.inr ⟨p1,rfl⟩⟩) K'
      ·have:=b4p hng hm hC (HD:=HD) (Q:=Q) (F:=F) hO.len hob hL hnt hnd (pl:=.md e.r e.k) m3 m4 u3 (q2 us u1 u2)
        (fun t' sg' tr' gs' e1 e2=>hbd _ (a0h e1) gs' e2.1) (fun h' e' gs' e1 e2=>hbm _ (a0h e1) gs' e2.1)
        (fun t' sg' tr' gs' infs2 act3 w3 e1 e2 e3=>hHD t' act3 w3 ⟨mu t' gs',hdn _ _ e2.2 hok,sg',tr',gs',infs2,e1,e2.1,rfl,e3⟩)
        (fun h' e' gs' infs2 act3 w3 e1 e2 e3=>ih (mu h' gs') e2.2 (hdn _ _ e2.2 hok) h' e' gs' infs2 act3 w3 e1 e2.1 rfl e3)
        (hret (Qr:=b6s inv mu R (mu h gs)) fun l hl=>hl)
       exact this ops K' hops hK
    have heads: ∀k t act w',I k t act w'→ ∀c K,ctx t body 0 []=some (c,K)→At1 body (.loop c) t K→KOK body K→ ∀HD:Nat→Act→World→Prop,(∀t' act' w',(∃j,j<k∧I j t' act' w')→HD t' act' w'∧ ∀c' K',ctx t' body 0 []=some (c',K')→(Code.loop c').wpIn (Fr none) 0 P (a0S P HD Q K') act' w')→
      c.wpIn (Fr none) 0 P (a0S P HD Q (.lp c t::K)) act w':=by
     rintro k t act w' ⟨sg,tr,σ,infs,g1,g2,rfl,g4⟩ c K hc hat hko HD hHD;obtain⟨a1,a3⟩:=hallH _ (a0h g1)
     have:=b4p hng hm hC (HD:=HD) (Q:=Q) (F:=F) hO.len hob hL hnt hnd (pl:=.lp t) a1 a3 g4 (hh _ (a0h g1) σ g4.ty g2)
      (fun t' sg' tr' gs' e1 e2=>hbd _ (a0h e1) gs' e2.1) (fun h' e' gs' e1 e2=>hbm _ (a0h e1) gs' e2.1)
      (fun t' sg' tr' gs infs' act' w'' e1 e2 e3=>hHD t' act' w'' ⟨mu t' gs,e2.2,sg',tr',gs,infs',e1,e2.1,rfl,e3⟩)
      (fun h' e' gs' infs2 act3 w3 e1 e2 e3=>mids HD (fun j=>j<mu t σ) (fun a b h1 h2=>Nat.lt_trans h1 h2) hHD (mu h' gs') e2.2 h' e' gs' infs2 act3 w3 e1 e2.1 rfl e3)
      (hret (Qr:=b6s inv mu R (mu t σ)) fun l hl=>hl)
     exact this c K hc hat
    have all: ∀t' act' w',(∃j,True∧I j t' act' w')→(∃j,I j t' act' w')∧ ∀c' K',ctx t' body 0 []=some (c',K')→(Code.loop c').wpIn (Fr none) 0 P (a0S P (fun t act w=> ∃j,I j t act w) Q K') act' w':=by rintro t' act' w' ⟨j,_,hi⟩;refine⟨⟨j,hi⟩,fun c' K' hc'=> ?_⟩;refine wpIn_mono (b5O heads j t' c' K' hc' j (Nat.le_refl _) act' w' ⟨_,Nat.le_refl _,hi⟩) ?_;exact a1k (fun n act w ⟨j,_,h⟩=>⟨j,h⟩) K'
    refine b3g (R:=Rr) hf hb ?_;obtain⟨hvl,hva⟩:=c5Q ha;generalize hact:({tmps:=(⟨vs⟩:Array Value)++Array.replicate (fn.ntmps-(⟨vs⟩:Array Value).size) undef,defers:=[]}:Act)=act0
    have hsz:act0.tmps.size=fn.ntmps:=by subst hact;simp only[Array.size_append,Array.size_replicate,List.size_toArray];omega
    have hdf:act0.defers= []:=by subst hact;rfl
    have htm: ∀q∈d7V F.ia 0,svR gs0 (O.map some) q.2 (act0.tmps.getD q.1 undef):=fun q hq=>by obtain⟨i,e1,e2⟩:=c7L hq;have hi:=(List.getElem?_eq_some_iff.1 e2).1;have:=hva i q.2 e2;rw[Nat.zero_add]at e1;rw[e1];subst hact;rw[Array.getD_eq_getD_getElem?,Array.getElem?_append_left (by simp;omega)];rw[List.getD_eq_getElem?_getD]at this;simpa using this
    have k0:HeadSt O L fn.ntmps (e0h F) gs0 (O.map some) w act0 w:=⟨hsz,hdf,htm,by rw[List.length_map];exact hO.len,hO.ok,(fun i j inf jnf h1 h2 h3=>by
     rw[a1n]at h1 h2
     exact hO.nd i j inf jnf h1 h2 h3),(fun i inf hi=>.inl ⟨i,inf,by rwa [a1n]at hi,rfl⟩),(fun i inf hi=>hO.lt inf (by rw[a1n]at hi;exact List.mem_of_getElem? hi)),ty0,m0,.refl O w,fun q o hq=>by rw[a1n];exact hq⟩
    have key:=b4p hng hm hC (HD:=fun t act' w'=> ∃j,I j t act' w') (Q:=Q) (F:=F) hO.len hob hL hnt hnd (pl:=.ent) tl0 c4 k0 h0
     (fun t' sg' tr' gs' e1 e2=>hbd _ (a0h e1) gs' e2) (fun h' e' gs' e1 e2=>hbm _ (a0h e1) gs' e2)
     (fun t' sg' tr' gs infs' act' w'' e1 e2 e3=>all t' act' w'' ⟨mu t' gs,trivial,sg',tr',gs,infs',e1,e2,rfl,e3⟩)
     (fun h' e' gs' infs2 act3 w3 e1 e2 e3=>mids _ (fun _=>True) (fun _ _ _ _=>trivial) all (mu h' gs') trivial h' e' gs' infs2 act3 w3 e1 e2 rfl e3)
     (hret (Qr:=c5s inv R) fun l hl=>hl)
    exact key
   ·cases hchk
  ·cases hchk
 ·cases hchk
end
theorem CfOK.o{P:Program}{c:Cf}(h:CfOK P c):CoOK P c.o:=by
 refine⟨fun w σ O L vs hL hO ht hm ha hp=> ?_⟩;have hO':O= []:=List.eq_nil_of_length_eq_zero hO.len;subst hO'
 have hm:GML (a0W w L) σ:=by
  have:L++a1Y (([]:List Inf).map some)=L:=by simp[a1Y]
  rwa [this]at hm
 have ht:TyL (a0F c.sh) σ:=ht;have hv:=b9u (sh:=c.sh) (t:=0) (j:=0) (by rw[ht.len];omega) ha;rw[List.drop_zero]at hv;subst hv;refine(h.ok w σ L hL ht hm hp).mono ?_;rintro e w' ⟨us,u1,rfl,u3,u4,u5⟩;refine⟨⟨⟨u5.os,u5.tape,u5.output,u5.size⟩,fun k hk _=>u5.block k hk⟩,.inl ⟨us,u1,rfl, ?_, ?_,⟨rfl,(fun q b hq=>by cases hq),(fun i j o o' h=>by cases h),fun o ho=>by cases ho⟩⟩⟩
 ·show TyL (a0F c.rs++ []) us;rw[List.append_nil];exact u3
 ·have:L++a1Y (([]:List Inf).map some)=L:=by simp[a1Y]
  rw[this];exact u4
section
variable{P:Program}(hng:a6U P)(hm:P.follows .mixedOrders=true){C:Nat→Ct}(hC: ∀c,CtOK P (C c)){D:Nat→Cf}(hD: ∀c,CfOK P (D c)){fn:Func}{F:FnV}
include hng hm hC hD
theorem a3n{f:FuncId}(hf:P.funcs[f]? =some fn)(hchk:b5t P C D fn F=true)(inv:Nat→List G→Prop)(mu:Nat→List G→Nat)(R:List G→Prop){gs0:List G}
  (h0:wp C F.ent gs0 (c5s inv R))
  (hbd: ∀q∈F.hd,∀σ,inv q.1 σ→b1a q.2.1 σ)
  (hbm: ∀q∈F.md,∀σ,inv q.1 σ→b1a q.2.sg σ)
  (hh: ∀q∈F.hd,∀σ,TyL q.2.1.tys σ→inv q.1 σ→wp C q.2.2 σ (b6s inv mu R (mu q.1 σ)))
  (hd: ∀q∈F.md,∀σ,TyL q.2.sg.tys σ→inv q.1 σ→(D q.2.c).pre (q.2.xs.map (gG σ))∧ ∀us,(D q.2.c).post (q.2.xs.map (gG σ)) us→TyL (a0F (D q.2.c).rs) us→wp C q.2.tr (σ++us) (b6s inv mu R (mu q.1 σ)))
  {w:World} {L:List Nat} (hL: ∀b∈L,b<w.heap.size) (ty0:TyL (a0F F.psh) gs0) (m0:GML (a0W w L) gs0):Calls P f ⟨a3e F.psh gs0⟩ w fun e w'=> ∃gs,R gs∧e= .returned (a8w F.rs gs)∧TyL (a0F F.rs) gs∧GML (a0W w' L) gs∧Below w.heap.size w w':=by
 have hz:L++a1Y (([]:List Inf).map some)=L:=by simp[a1Y]
 refine(b8F hng hm hC (fun c=>(hD c).o) (F:=F.o) hf hchk inv mu R False (.bool false) h0 hbd (fun q hq=> ?_) hh (fun q hq σ ht hi=> ?_) (O:=[]) hL ⟨rfl,(fun q b hq=>by cases hq),(fun i j o o' h=>by cases h),fun o ho=>by cases ho⟩ ty0 (by rw[hz];exact m0) (vs:=a3e F.psh gs0) ?_).mono ?_
 ·obtain⟨q0,h1,rfl⟩:=List.mem_map.1 hq;exact hbm q0 h1
 ·obtain⟨q0,h1,rfl⟩:=List.mem_map.1 hq;obtain⟨h2,h3⟩:=hd q0 h1 σ ht hi;refine⟨h2,fun h=>h.elim,fun us hp hty=>h3 us hp ?_⟩;have hty:TyL (a0F (D q0.2.c).rs++ []) us:=hty
  rwa [List.append_nil]at hty
 ·have:=c0B (σ:=gs0) (infs:=([]:List Inf).map some) (sh:=F.psh) (t:=0) (j:=0) (by rw[ty0.len];omega);rw[List.drop_zero]at this;exact this
 ·rintro e w' ⟨an,⟨us,u1,rfl,u3,u4,_⟩|⟨hf,_⟩⟩
  ·have u3:TyL (a0F F.rs++ []) us:=u3;rw[List.append_nil]at u3;rw[hz]at u4;exact⟨us,u1,rfl,u3,u4,⟨an.wk.os,an.wk.tape,an.wk.output,an.wk.size,fun k hk=>an.old k hk fun o ho=>by cases ho⟩⟩
  ·exact hf.elim
end
theorem tyC{t:Ty}{ts:List Ty}{gs:List G}(h:TyL (t::ts) gs): ∃g l,gs=g::l∧TyOK t g∧TyL ts l:=by
 cases gs with
 |nil=>simp only[TyL]at h
 |cons g l=>simp only[TyL]at h;exact⟨g,l,rfl,h.1,h.2⟩
theorem tyN{gs:List G}(h:TyL [] gs):gs= []:=by
 cases gs with
 |nil=>rfl
 |cons g l=>simp only[TyL]at h
theorem tyI{k:IntKind}{g:G}(h:TyOK (.i k) g): ∃n,g= .i k n∧k.min≤n∧n≤k.max:=by cases g<;>simp only[TyOK]at h;obtain⟨rfl,h1,h2⟩:=h;exact⟨_,rfl,h1,h2⟩
theorem a0a{g:G}(h:TyOK (.i .i64) g): ∃n,g= .i .i64 n∧ -9223372036854775808≤n∧n≤9223372036854775807:=tyI h
theorem e0X{g:G}(h:TyOK (.i .u64) g): ∃n,g= .i .u64 n∧0≤n∧n≤18446744073709551615:=tyI h
theorem tyB{g:G}(h:TyOK .b g): ∃b,g= .b b:=by cases g<;>simp only[TyOK]at h;exact⟨_,rfl⟩
theorem tyS{g:G}(h:TyOK .s g): ∃s,g= .s s∧s.size≤9223372036854775807:=by cases g<;>simp only[TyOK]at h;exact⟨_,rfl,by omega⟩
theorem b3l{ts:List Ty}{g:G}(h:TyOK (.l ts) g): ∃v es,g= .l v es∧TyLL ts es∧es.length≤9223372036854775807:=by cases g<;>simp only[TyOK]at h;exact⟨_,_,rfl,h.1,by omega⟩
theorem a0D{k:IntKind}{n:Int}:(G.i k n).int=n:=rfl
theorem a1R{s:ByteArray}:(G.s s).str=s:=rfl
theorem a2w{b:Bool}:(G.b b).bool=b:=rfl
theorem a6y{v:Value}{es:List (List G)}:(G.l v es).es=es:=rfl
theorem b2b{es:List (List G)}:(G.w es).es=es:=rfl
theorem a2Y{v:Value}{es:List (List G)}:(G.l v es).len=es.length:=rfl
theorem a2Q{v:Value}{es:List (List G)}{i:Int}:b9g (.l v es) i=es.getD i.toNat []:=rfl
theorem TyLL.getD{ts:List Ty}{es:List (List G)}{i:Nat}(h:TyLL ts es)(hi:i<es.length):TyL ts (es.getD i []):=
 TyLL.at h (by rw[List.getD_eq_getElem?_getD,List.getElem?_eq_getElem hi];rfl)
theorem a1b{σ:List G}:d3M σ none= []:=rfl
theorem a1v{σ:List G}{j:Nat}:d3M σ (some j)=(σ.getD j .d).es:=rfl
theorem d5C{k:IntKind}{a b:Int}:aop .add k a b=some (k.wrap (a+b)):=rfl
theorem b2B{inv:Nat→List G→Prop}{R:List G→Prop}{t:Nat}{σ:List G}:c5s inv R (.goto t σ)=inv t σ:=rfl
theorem c5r{inv:Nat→List G→Prop}{R:List G→Prop}{σ:List G}:c5s inv R (.ret σ)=R σ:=rfl
theorem a5U{inv:Nat→List G→Prop}{mu:Nat→List G→Nat}{R:List G→Prop}{n t:Nat}{σ:List G}:b6s inv mu R n (.goto t σ)=(inv t σ∧mu t σ<n):=rfl
theorem b2A{inv:Nat→List G→Prop}{mu:Nat→List G→Nat}{R:List G→Prop}{n:Nat}{σ:List G}:b6s inv mu R n (.ret σ)=R σ:=rfl
theorem b1f{n:Int}(h0: -9223372036854775808≤n)(h1:n≤9223372036854775807):IntKind.i64.wrap n=n:=by rw[IntKind.wrap_i64];omega
theorem a8V(x:List G):x.headD .d=x.getD 0 .d:=by cases x<;>rfl
theorem a8U(x:List G)(n:Nat):x.tail.getD n .d=x.getD (n+1) .d:=by cases x<;>simp
theorem a2i{n:Nat}(h:n≤9223372036854775806):IntKind.i64.wrap ((n:Int)+1)=((n+1:Nat):Int):=by rw[b1f (by omega) (by omega)];omega
def Cs(l:List Ct):Nat→Ct:=fun c=>l.getD c ⟨0,[],[],fun _=>False,fun _=>[]⟩
theorem a8u{P:Program}{l:List Ct}(h: ∀c∈l,CtOK P c)(c:Nat):CtOK P (Cs l c):=by
 unfold Cs;rw[List.getD_eq_getElem?_getD];rcases Nat.lt_or_ge c l.length with hc|hc
 ·rw[List.getElem?_eq_getElem hc];exact h _ (List.getElem_mem hc)
 ·rw[List.getElem?_eq_none hc];exact⟨rfl,fun _ _ h=>False.elim h,fun _ _ _ _ h=>False.elim h⟩
def Ds(l:List Cf):Nat→Cf:=fun c=>l.getD c ⟨0,[],[],fun _=>False,fun _ _=>False⟩
theorem b9c{P:Program}{l:List Cf}(h: ∀c∈l,CfOK P c)(c:Nat):CfOK P (Ds l c):=by
 unfold Ds;rw[List.getD_eq_getElem?_getD];rcases Nat.lt_or_ge c l.length with hc|hc
 ·rw[List.getElem?_eq_getElem hc];exact h _ (List.getElem_mem hc)
 ·rw[List.getElem?_eq_none hc];exact⟨(fun t ht=>by cases ht),fun _ _ _ _ _ _ h=>False.elim h⟩
section
variable{C:Nat→Ct}{k:IntKind}{x y lo hi i:VV}{t f:Vt}{σ:List G}{Q:Res→Prop}{ts:List Ty}
theorem a1F(h:wp C t (σ++ [.i k (k.wrap ((gG σ x).int+(gG σ y).int))]) Q):wp C (.bin .add k x y t) σ Q:=⟨_,rfl,h⟩
theorem c4u(h:wp C t (σ++ [.i k (k.wrap ((gG σ x).int-(gG σ y).int))]) Q):wp C (.bin .sub k x y t) σ Q:=⟨_,rfl,h⟩
theorem d5n(h:wp C t (σ++ [.i k (k.wrap ((gG σ x).int*(gG σ y).int))]) Q):wp C (.bin .mul k x y t) σ Q:=⟨_,rfl,h⟩
theorem d9s{op:UnOp}{r:Int}(hr:uop op k (gG σ x).int=some r)(h:wp C t (σ++ [.i k r]) Q):wp C (.un op k x t) σ Q:=⟨r,hr,h⟩
theorem a3t(h:wp C t (σ++ [.i k (k.wrap (gG σ x).int)]) Q):wp C (.conv k x t) σ Q:=h
theorem a0w(h:(gG σ x).int<(gG σ y).int→wp C t σ Q)(g:(gG σ y).int≤(gG σ x).int→wp C f σ Q):wp C (.lss x y t f) σ Q:=⟨h,g⟩
theorem a0r(h:(gG σ x).int=(gG σ y).int→wp C t σ Q)(g:(gG σ x).int≠(gG σ y).int→wp C f σ Q):wp C (.eql x y t f) σ Q:=⟨h,g⟩
theorem d0o(h:(gG σ x).str=(gG σ y).str→wp C t σ Q)(g:(gG σ x).str≠(gG σ y).str→wp C f σ Q):wp C (.eqs x y t f) σ Q:=⟨h,g⟩
theorem a3d{j:Nat}(h:(σ.getD j .d).bool=true→wp C t σ Q)(g:(σ.getD j .d).bool=false→wp C f σ Q):wp C (.fb j t f) σ Q:=⟨h,g⟩
theorem a1Z(h:wp C t (σ++ [.i .i64 (gG σ x).len]) Q):wp C (.len x t) σ Q:=h
theorem a4V(h:wp C t (σ++ [.i .i64 (gG σ x).str.size]) Q):wp C (.slen x t) σ Q:=h
theorem a3z(h0:0≤(gG σ i).int)(h1:(gG σ i).int<(gG σ x).len)(h:wp C t (σ++a0z ts.length (b9g (gG σ x) (gG σ i).int)) Q):wp C (.elt x i ts t) σ Q:=⟨h0,h1,h⟩
theorem c4v(h0:(((gG σ x).str++(gG σ y).str).size:Int)≤9223372036854775807)(h:wp C t (σ++ [.s ((gG σ x).str++(gG σ y).str)]) Q):wp C (.cat x y t) σ Q:=⟨h0,h⟩
theorem a3Q{c:Nat}{xs:List VV}(h0:(C c).pre (xs.map (gG σ)))(h:wp C t (σ++(C c).post (xs.map (gG σ))) Q):wp C (.call c xs t) σ Q:=⟨h0,h⟩
theorem d2H(h:wp C t (σ++ [.i k (if(gG σ y).int<(gG σ x).int then(gG σ y).int else(gG σ x).int)]) Q):wp C (.mn k x y t) σ Q:=h
theorem a7t(h0:0≤(gG σ lo).int)(h1:(gG σ lo).int≤(gG σ hi).int)(h2:(gG σ hi).int≤(gG σ x).str.size)(h:wp C t (σ++ [.s ((gG σ x).str.extract (gG σ lo).int.toNat (gG σ hi).int.toNat)]) Q):wp C (.sub x lo hi t) σ Q:=⟨h0,h1,h2,h⟩
theorem b9l(h0:0≤(gG σ i).int)(h1:(gG σ i).int<(gG σ x).str.size)(h:wp C t (σ++ [.i .u8 (((gG σ x).str.data.toList.getD (gG σ i).int.toNat 0).toNat:Int)]) Q):wp C (.sidx x i t) σ Q:=⟨h0,h1,h⟩
theorem d5o{lo hi:Option VV}(h0:0≤a0l σ 0 lo)(h1:a0l σ 0 lo≤a0l σ (gG σ x).len hi)(h2:a0l σ (gG σ x).len hi≤(gG σ x).len)
  (h:wp C t (σ++ [.l (cutV ts.length (gG σ x).val (a0l σ 0 lo) (a0l σ (gG σ x).len hi)) (((gG σ x).es.drop (a0l σ 0 lo).toNat).take ((a0l σ (gG σ x).len hi).toNat-(a0l σ 0 lo).toNat))]) Q):wp C (.cut ts x lo hi t) σ Q:=⟨h0,h1,h2,h⟩
theorem a0C{h:Nat}{m:List (Option Nat)}{xs:List GE}(g:a7q σ xs fun l=>Q (.goto h l)):wp C (.goto h m xs) σ Q:=g
theorem a0c{xs:List GE}(g:a7q σ xs fun l=>Q (.ret l)):wp C (.ret xs) σ Q:=g
end
def b3R(f:TypeId→Ty→Bool):List TypeId→List Ty→Bool
 | [],[]=>true
 |t::l,u::us=>match f t u with
  |true=>b3R f l us|false=>false
 |_,_=>false
def a7J(P:Program):Nat→TypeId→Ty→Bool
 |0,_,_=>false
 |d+1,t,.i k=>match P.underlying t with
  |some (.int k')=>c9w k' k|_=>false
 |d+1,t,.b=>match P.underlying t with
  |some .bool=>true|_=>false
 |d+1,t,.s=>match P.underlying t with
  |some .string=>true|_=>false
 |d+1,t,.l ts=>match P.underlying t with
  |some (.slice e)=>match b2d P 9 e with
   |some (a::l)=>b3R (a7J P d) (a::l) ts|_=>false
  |_=>false
 |_,_,_=>false
section
variable{H:Type}{enc:TypeId×Value→H}{P:Program}{w:World}
def c3O(enc:TypeId×Value→H)(P:Program)(w:World)(f:TypeId→Ty→Bool):Prop:=
 ∀t u v n y,f t u=true→DataW.trod enc P w 0 (fun _=>true) true n t [v]=some y→ ∃g,g.val=v∧TyOK u g∧GM w g
theorem b7h{f:TypeId→Ty→Bool}: ∀{l:List TypeId} {us:List Ty},b3R f l us=true→l.length=us.length
 | [],[],_=>rfl
 | [],_::_,h=>by simp[b3R]at h
 |_::_,[],h=>by simp[b3R]at h
 |t::l,u::us,h=>by
  simp only[b3R]at h;split at h
  ·simp[b7h h]
  ·cases h
theorem c2P{f:TypeId→Ty→Bool}(hf:c3O enc P w f): ∀{l:List TypeId} {us:List Ty} {cs:List Value},b3R f l us=true→LeavesOK enc P w 0 (fun _=>true) true l cs→ ∃gs,gs.map G.val=cs∧TyL us gs∧GML w gs
 | [],[],cs,_,hl=>⟨[],(List.eq_nil_of_length_eq_zero hl.1).symm,trivial,trivial⟩
 | [],_::_,_,h,_=>by simp[b3R]at h
 |_::_,[],_,h,_=>by simp[b3R]at h
 |t::l,u::us,cs,h,hl=>by
  simp only[b3R]at h;split at h
  ·rename_i h1
   match cs,hl with
   | [],hl=>cases hl.1
   |c::cs,hl=>obtain⟨v,n,y,e,ht⟩:=hl.2 0 t rfl;cases e;obtain⟨g,g1,g2,g3⟩:=hf _ _ _ _ _ h1 ht;obtain⟨gs,k1,k2,k3⟩:=c2P hf h (cs:=cs) ⟨by simpa using hl.1,fun j t' hj=>hl.2 (j+1) t' (by simpa using hj)⟩;exact⟨g::gs,by simp[g1,k1],⟨g2,k2⟩,⟨g3,k3⟩⟩
  ·cases h
theorem b7g: ∀d,c3O enc P w (a7J P d)
 |0=>fun t u v n y h _=>by simp[a7J]at h
 |d+1=>fun t u v n y h ht=>by
  cases u with
  |i k=>
   simp only[a7J]at h;split at h
   ·rename_i k' hu;rw[d7O h]at hu;obtain⟨z,e,_,hw⟩:=DataW.trod_int hu ht;simp only[List.cons.injEq,and_true]at e;subst e;simp only[Lit.wf,Bool.and_eq_true,decide_eq_true_eq]at hw;exact⟨.i k z,rfl,⟨rfl,hw.1,hw.2⟩,by simp only[GM]⟩
   ·cases h
  |b=>
   simp only[a7J]at h;split at h
   ·rename_i hu;obtain⟨z,e,_⟩:=DataW.trod_bool hu ht;simp only[List.cons.injEq,and_true]at e;subst e;exact⟨.b z,rfl,trivial,by simp only[GM]⟩
   ·cases h
  |s=>
   simp only[a7J]at h;split at h
   ·rename_i hu;obtain⟨z,e,_,hs⟩:=DataW.trod_string hu ht;simp only[List.cons.injEq,and_true]at e;subst e;refine⟨.s z,rfl, ?_,by simp only[GM]⟩;simp only[TyOK];unfold maxLen at hs;omega
   ·cases h
  |o=>simp[a7J]at h
  |w ts=>simp[a7J]at h
  |l ts=>
   simp only[a7J]at h;split at h
   ·rename_i e hu;split at h
    ·rename_i a l hfl;have hlen:=b7h h;have hce:P.cellsOf e=ts.length:=by rw[a4g hfl,hlen]
     have hpos:0<ts.length:=by rw[←hlen];simp
     rcases Go.Deep.open_slice hu ht with⟨hs,_⟩|⟨ad,len,cap,m,n',DD,Pl,hs,_,hl,hc,hmm,_,hall⟩
     ·simp only[List.cons.injEq,and_true]at hs;subst hs;refine⟨.l (.slice none 0 0) [],rfl,⟨trivial,by decide,none,0,rfl,Nat.le_refl _⟩, ?_⟩;simp only[GM];exact⟨none,0,rfl,.inl ⟨trivial,.inl rfl⟩⟩
     ·simp only[List.cons.injEq,and_true]at hs;subst hs;simp only[if_true]at hmm;subst hmm;have hcl:(m:Int)≤9223372036854775807:=by unfold maxLen at hc;omega
      rcases Nat.eq_zero_or_pos m with h0|h0
      ·subst h0;obtain rfl:len=0:=by omega
       refine⟨.l (.slice (some ad) 0 0) [],rfl,⟨trivial,by decide,some ad,0,rfl,Nat.le_refl _⟩, ?_⟩;simp only[GM];exact⟨some ad,0,rfl,.inl ⟨trivial,.inr rfl⟩⟩
      ·have each: ∀i,∃gs:List G,i<m→TyL ts gs∧GML w gs∧ ∀j g,gs[j]? =some g→w.cell? ((ad.add (i*ts.length)).add j)=some g.val:=fun i=>by
        by_cases hi:i<m
        ·obtain⟨cs',h1,h2⟩:=hall i hi;obtain⟨_,c2,c3⟩:=World.cells?_some h1;obtain⟨gs,k1,k2,k3⟩:=c2P (b7g d) h (b2S hfl h2);refine⟨gs,fun _=>⟨k2,k3,fun j g hg=> ?_⟩⟩;have hj:j<gs.length:=(List.getElem?_eq_some_iff.1 hg).1;have hj2:j<P.cellsOf e:=by rw[hce,←k2.len];exact hj
         rw[hce]at c3;rw[c3 j (by rw[←hce];exact hj2),←k1,List.getElem?_map,hg];rfl
        ·exact⟨[],fun h=>absurd h hi⟩
       obtain⟨f,hf⟩:=Classical.skolem.1 each;obtain⟨f1,f2,f3⟩:=hf 0 h0;have hg0: ∃g,(f 0)[0]? =some g:=⟨_,List.getElem?_eq_getElem (by rw[f1.len];exact hpos)⟩;obtain⟨g0,hg0⟩:=hg0;have hcell:=f3 0 g0 hg0;have hsp:=World.cell?_spot hcell;obtain⟨B,O,spot⟩:=ad;have hspot:spot=none:=by simpa[Addr.add]using hsp
       subst hspot;have hadd: ∀i j,((⟨B,O,none⟩:Addr).add i).add j=⟨B,O+i+j,none⟩:=fun i j=>by rw[Addr.add_lit,Addr.add_lit]
       have hB:B<w.heap.size:=by
        rw[hadd]at hcell;unfold World.cell? at hcell;rcases Nat.lt_or_ge B w.heap.size with hb|hb
        ·exact hb
        ·simp only[Array.getElem?_eq_none hb]at hcell;cases hcell
       have hat: ∀i x,((List.range len).map f)[i]? =some x→i<len∧x=f i:=fun i x hx=>by
        rw[List.getElem?_map]at hx;rcases Nat.lt_or_ge i len with hi|hi
        ·rw[List.getElem?_range hi]at hx;cases hx;exact⟨hi,rfl⟩
        ·rw[List.getElem?_eq_none (by simpa using hi)]at hx;cases hx
       have hll:((List.range len).map f).length=len:=by simp
       have hTL:TyLL ts ((List.range len).map f):=by
        have: ∀(l:List Nat),(∀i∈l,i<len)→TyLL ts (l.map f):=fun l=>by
         induction l with
         |nil=>intro _;simp only[List.map_nil,TyLL]
         |cons a l ih=>intro hm;simp only[List.map_cons,TyLL];exact⟨(hf a (by have:=hm a (by simp);omega)).1,ih fun i hi=>hm i (by simp[hi])⟩
        exact this _ fun i hi=>by simpa using hi
       refine⟨.l (.slice (some ⟨B,O,none⟩) len m) ((List.range len).map f),rfl,⟨hTL,by rw[hll];omega,_,m,by rw[hll],by rw[hll];exact hl⟩, ?_⟩;simp only[GM];refine⟨_,m,by rw[hll],.inr ⟨B,O,rfl,.inr ⟨hB, ?_⟩⟩⟩;refine GME.all (n:=ts.length) (fun x hx=> ?_) fun i x hx=> ?_
       ·obtain⟨i,hi,rfl⟩:=List.mem_map.1 hx;exact(hf i (by have:=List.mem_range.1 hi;omega)).1.len
       ·obtain⟨hi,rfl⟩:=hat i x hx;obtain⟨h1,h2,h3⟩:=hf i (by omega);refine GMC.all fun j g hg=>⟨?_,GML.at h2 hg⟩;have:=h3 j g hg;rw[hadd]at this;exact this
    ·cases h
   ·cases h
end
def Go(C:Nat→Ct)(D:Nat→Co)(F:FnO)(R:List G→Prop)(Pn:Prop)(pv:Value)(iH:Nat→List G→Prop)(mH:Nat→List G→Nat):Nat→Nat→Res→Prop
 |0,b,r=>match r with
  |.ret l=>R l
  |.goto h σ=>match a0s h F.md with
   |some _=>False|none=>iH h σ∧mH h σ<b
 |n+1,b,r=>match r with
  |.ret l=>R l
  |.goto h σ=>match a0s h F.md with
   |some e=>b1a e.sg σ∧(TyL e.sg.tys σ→(D e.c).pre (e.xs.map (gG σ))∧((D e.c).pan (e.xs.map (gG σ))→Pn∧(D e.c).pv=pv)∧ ∀us,(D e.c).post (e.xs.map (gG σ)) us→TyL (a0F (D e.c).rs++(D e.c).oty) us→wp C e.tr (σ++us) (Go C D F R Pn pv iH mH n b))|none=>iH h σ∧mH h σ<b
mutual
theorem a8s{σ:List G}: ∀(l:List GE) {Q Q':List G→Prop},(∀x,Q x→Q' x)→a7q σ l Q→a7q σ l Q'
 | [],Q,Q',h,k=>by simp only[a7q]at k ⊢;exact h _ k
 |g::l,Q,Q',h,k=>by simp only[a7q]at k ⊢;exact allG1_mono g (fun u hu=>a8s l (fun us=>h (u::us)) hu) k
theorem allG1_mono{σ:List G}: ∀(g:GE) {Q Q':G→Prop},(∀x,Q x→Q' x)→allG1 σ g Q→allG1 σ g Q'
 |.v x,Q,Q',h,k=>by simp only[allG1]at k ⊢;exact h _ k
 |.sl x es,Q,Q',h,k=>by simp only[allG1]at k ⊢;exact allGG_mono es (fun us hu v=>h _ (hu v)) k
 |.app x j es,Q,Q',h,k=>by simp only[allG1]at k ⊢;exact allGG_mono es (fun us hu v=>h _ (hu v)) k
 |.ow x j es,Q,Q',h,k=>by simp only[allG1]at k ⊢;exact allGG_mono es (fun us hu=>h _ hu) k
theorem allGG_mono{σ:List G}: ∀(l:List (List GE)) {Q Q':List (List G)→Prop},(∀x,Q x→Q' x)→allGG σ l Q→allGG σ l Q'
 | [],Q,Q',h,k=>by simp only[allGG]at k ⊢;exact h _ k
 |x::l,Q,Q',h,k=>by simp only[allGG]at k ⊢;exact a8s x (fun u hu=>allGG_mono l (fun us=>h (u::us)) hu) k
end
theorem a0Z{C:Nat→Ct}{Q Q':Res→Prop}(h: ∀r,Q r→Q' r): ∀(t:Vt) {σ:List G},wp C t σ Q→wp C t σ Q'
 |.bin _ _ _ _ t,σ,⟨r,hr,k⟩=>⟨r,hr,a0Z h t k⟩|.conv _ _ t,σ,k=>a0Z h t (σ:=σ++ [_]) k|.un _ _ _ t,σ,⟨r,hr,k⟩=>⟨r,hr,a0Z h t k⟩|.lss _ _ t f,σ,⟨k1,k2⟩=>⟨fun e=>a0Z h t (k1 e),fun e=>a0Z h f (k2 e)⟩|.eql _ _ t f,σ,⟨k1,k2⟩=>⟨fun e=>a0Z h t (k1 e),fun e=>a0Z h f (k2 e)⟩|.eqs _ _ t f,σ,⟨k1,k2⟩=>⟨fun e=>a0Z h t (k1 e),fun e=>a0Z h f (k2 e)⟩|.fb _ t f,σ,⟨k1,k2⟩=>⟨fun e=>a0Z h t (k1 e),fun e=>a0Z h f (k2 e)⟩|.len _ t,σ,k=>a0Z h t (σ:=σ++ [_]) k|.slen _ t,σ,k=>a0Z h t (σ:=σ++ [_]) k|.elt _ _ _ t,σ,⟨a,b,k⟩=>⟨a,b,a0Z h t k⟩|.cat _ _ t,σ,⟨a,k⟩=>⟨a,a0Z h t k⟩|.sub _ _ _ t,σ,⟨a,b,c,k⟩=>⟨a,b,c,a0Z h t k⟩|.sidx _ _ t,σ,⟨a,b,k⟩=>⟨a,b,a0Z h t k⟩|.cut _ _ _ _ t,σ,⟨a,b,c,k⟩=>⟨a,b,c,a0Z h t k⟩|.mn _ _ _ t,σ,k=>a0Z h t (σ:=σ++ [_]) k|.mx _ _ _ t,σ,k=>a0Z h t (σ:=σ++ [_]) k|.call _ _ t,σ,⟨a,k⟩=>⟨a,a0Z h t k⟩|.goto _ _ xs,σ,k=>a8s xs (fun l hl=>h _ hl) k|.ret xs,σ,k=>a8s xs (fun l hl=>h _ hl) k|.no,_,k=>k
theorem least{p:Nat→Prop}(h: ∃n,p n): ∃n,p n∧ ∀m,p m→n≤m:=by
 obtain⟨n,hn⟩:=h
 induction n using Nat.strongRecOn with
 |_ n ih=>
  by_cases hm: ∃m,m<n∧p m
  ·obtain⟨m,h1,h2⟩:=hm;exact ih m h1 h2
  ·exact⟨n,hn,fun m hp=>Nat.le_of_not_lt fun hl=>hm ⟨m,hl,hp⟩⟩
section
variable{P:Program}(hng:a6U P)(hm:P.follows .mixedOrders=true){C:Nat→Ct}(hC: ∀c,CtOK P (C c)){D:Nat→Co}(hD: ∀c,CoOK P (D c)){fn:Func}{F:FnO}
include hng hm hC hD
open Classical in
theorem b4G{f:FuncId}(hf:P.funcs[f]? =some fn)(hchk:a2H P C D fn F=true)(N B:Nat)(iH:Nat→List G→Prop)(mH:Nat→List G→Nat)(R:List G→Prop)(Pn:Prop)(pv:Value){gs0:List G}
  (hmd: ∀q∈F.hd,a0s q.1 F.md=none)
  (h0:wp C F.ent gs0 (Go C D F R Pn pv iH mH N B))
  (hbd: ∀q∈F.hd,∀σ,iH q.1 σ→b1a q.2.1 σ)
  (hh: ∀q∈F.hd,∀σ,TyL q.2.1.tys σ→iH q.1 σ→wp C q.2.2 σ (Go C D F R Pn pv iH mH N (mH q.1 σ)))
  (hmu: ∀q∈F.md,a0s q.1 F.md=some q.2)
  {w:World} {O:List Inf} {L:List Nat} {vs:List Value} (hL: ∀b∈L,b<w.heap.size) (hO:ObjSt w O gs0 F.bl) (ty0:TyL F.ty gs0) (m0:GML (a0W w (L++a1Y (O.map some))) gs0) (ha:b3H gs0 (O.map some) F.ia vs):
  Calls P f ⟨vs⟩ w fun e w'=>AncO O w w'∧((∃us,R us∧e= .returned (a8w F.rs us)∧TyL (a0F F.rs++F.oty) us∧GML (a0W w' (L++a1Y (O.map some))) us∧ObjSt w' O us F.obl)∨(Pn∧e= .panicked (a7N pv))):=by
 let A:Nat→Nat→List G→Prop:=fun v h σ=> ∃n b,n≤N∧v=b*(N+1)+n∧Go C D F R Pn pv iH mH n b (.goto h σ)
 let inv:Nat→List G→Prop:=fun h σ=>match a0s h F.md with
  |some _=> ∃v,A v h σ|none=>iH h σ
 let mu:Nat→List G→Nat:=fun h σ=>match a0s h F.md with
  |some _=>if hv: ∃v,A v h σ then(least hv).choose else 0
  |none=>(mH h σ+1)*(N+1)
 have step: ∀{n b:Nat},n≤N→ ∀r,Go C D F R Pn pv iH mH n b r→match r with
   |.goto t σ=>inv t σ∧mu t σ≤b*(N+1)+n
   |.ret l=>R l:=by
  intro n b hn r hr;cases r with
  |ret l=>cases n<;>exact hr
  |goto h σ=>
   cases hl:a0s h F.md with
   |some e=>
    have hA: ∃v,A v h σ:=⟨_,n,b,hn,rfl,hr⟩;refine⟨?_, ?_⟩
    ·show(match a0s h F.md with|some _=> ∃v,A v h σ|none=>iH h σ);rw[hl];exact hA
    ·show(match a0s h F.md with|some _=>if hv: ∃v,A v h σ then(least hv).choose else 0|none=>(mH h σ+1)*(N+1))≤_;rw[hl];simp only;rw[dif_pos hA];exact(least hA).choose_spec.2 _ ⟨n,b,hn,rfl,hr⟩
   |none=>
    have h1:iH h σ∧mH h σ<b:=by cases n<;>(simp only[Go,hl]at hr;exact hr)
    refine⟨?_, ?_⟩
    ·show(match a0s h F.md with|some _=> ∃v,A v h σ|none=>iH h σ);rw[hl];exact h1.1
    ·show(match a0s h F.md with|some _=>if hv: ∃v,A v h σ then(least hv).choose else 0|none=>(mH h σ+1)*(N+1))≤_;rw[hl];simp only;have:=Nat.mul_le_mul_right (N+1) (show mH h σ+1≤b from h1.2);omega
 refine b8F hng hm hC hD hf hchk inv mu R Pn pv ?_ (fun q hq σ hi=> ?_) (fun q hq σ hi=> ?_) (fun q hq σ ht hi=> ?_) (fun q hq σ ht hi=> ?_) hL hO ty0 m0 ha
 ·refine a0Z (fun r hr=> ?_) _ h0;have:=step (Nat.le_refl N) r hr;cases r with
  |ret l=>exact this
  |goto t σ=>exact this.1
 ·refine hbd q hq σ ?_;have hi:(match a0s q.1 F.md with|some _=> ∃v,A v q.1 σ|none=>iH q.1 σ):=hi;rw[hmd q hq]at hi;exact hi
 ·have hi:(match a0s q.1 F.md with|some _=> ∃v,A v q.1 σ|none=>iH q.1 σ):=hi;rw[hmu q hq]at hi;obtain⟨v,n,b,_,_,hg⟩:=hi;cases n with
  |zero=>simp only[Go,hmu q hq]at hg
  |succ n=>simp only[Go,hmu q hq]at hg;exact hg.1
 ·have hi:(match a0s q.1 F.md with|some _=> ∃v,A v q.1 σ|none=>iH q.1 σ):=hi;rw[hmd q hq]at hi
  have em:mu q.1 σ=(mH q.1 σ+1)*(N+1):=by show(match a0s q.1 F.md with|some _=>if hv: ∃v,A v q.1 σ then(least hv).choose else 0|none=>(mH q.1 σ+1)*(N+1))=_;rw[hmd q hq]
  refine a0Z (fun r hr=> ?_) _ (hh q hq σ ht hi);have:=step (Nat.le_refl N) r hr;cases r with
  |ret l=>exact this
  |goto t τ=>refine⟨this.1, ?_⟩;rw[em,Nat.add_mul];have:=this.2;omega
 ·have hi:(match a0s q.1 F.md with|some _=> ∃v,A v q.1 σ|none=>iH q.1 σ):=hi;rw[hmu q hq]at hi
  have em:mu q.1 σ=(least hi).choose:=by show(match a0s q.1 F.md with|some _=>if hv: ∃v,A v q.1 σ then(least hv).choose else 0|none=>(mH q.1 σ+1)*(N+1))=_;rw[hmu q hq];simp only;rw[dif_pos hi]
  obtain⟨n,b,hn,hv,hg⟩:=(least hi).choose_spec.1;rw[em,hv];cases n with
  |zero=>simp only[Go,hmu q hq]at hg
  |succ n=>
   simp only[Go,hmu q hq]at hg;obtain⟨g1,g2,g3⟩:=hg.2 ht;refine⟨g1,g2,fun us hp hty=>a0Z (fun r hr=> ?_) _ (g3 us hp hty)⟩;have:=step (show n≤N by omega) r hr;cases r with
   |ret l=>exact this
   |goto t τ=>exact⟨this.1,by have:=this.2;omega⟩
end
abbrev gY(n:Nat):GE:= .v (.sym n)
abbrev gI(n:Nat):GE:= .v (.sint .i64 n)
abbrev vI(n:Nat):VV:= .sint .i64 n
abbrev tI:Ty:= .i .i64
end
end Go.Ev
