/- Engine, part Qa: code walked in parts, whatever heads of loops it has; the world at a place becomes the base. -/
import Derived.Test.YtmmmknhdigapkaaEv9
namespace Go.Ev
set_option linter.unusedVariables false
noncomputable section
open Go.RowKit
def RSN[Ext](w0:World)(R:Rho→Prop)(sz:Nat)(a:VT)(H:VH)(act:Act)(w:World):Prop:=
 ∃φ:Phi,R φ.ρ∧TR φ a act.tmps∧HSim w0 φ H w∧WK w0 w∧act.tmps.size=sz∧act.defers= []
theorem MarksOK.no{w0:World}{φ:Phi}{H:VH}{w:World}{ds:List Deferred}(h:MarksOK (fun _=>False) w0 φ H w ds):ds= []:=by
 obtain⟨rs,h1,h2,h3⟩:=h;cases rs with
 |nil=>exact h1
 |cons r rs=>exact(h3 r (List.mem_cons_self)).1.elim
section
variable{P:Program}{Q:Exit→Act→World→Prop}{HD:Nat→Act→World→Prop}
theorem RSN.move[Ext]{w0:World}{ρ ρ':Rho}{sz N n:Nat}{m:TT Nat}{a₁ a':VT}{H₁:VH}{l':TT VO}{ps:Prs}{E':Env}{act:Act}{w:World}(k:RSN w0 (· =ρ) sz a₁ H₁ act w)(hs:mvS N n m a₁ H₁.locs a' l'=some ps)(hb:E'.blk=H₁.base.blk)
  (ha:agree N ρ ρ') (hc: ∀p∈ps,Car ρ ρ' p) (hE: ∀φ:Phi,φ.ρ=ρ'→EnvOK E' φ w0):RSN w0 (· =ρ') sz a' ⟨E',l',n⟩ act w:=by
 obtain⟨φ,k1,k2,k3,k4,k5,k6⟩:=k;subst k1;obtain⟨g1,g2⟩:=HSim.move k2 k3 hs hb ha hc hE;exact⟨φ.mv m ρ',rfl,g1,g2,k4,k5,k6⟩
theorem b5O{body:Code}{I:Nat→Nat→Act→World→Prop}
  (hI: ∀k t act w,I k t act w→ ∀c K,ctx t body 0 []=some (c,K)→At1 body (.loop c) t K→KOK body K→ ∀HD:Nat→Act→World→Prop,(∀t' act' w',(∃j,j<k∧I j t' act' w')→HD t' act' w'∧ ∀c' K',ctx t' body 0 []=some (c',K')→(Code.loop c').wpIn (Fr none) 0 P (a0S P HD Q K') act' w')→
   c.wpIn (Fr none) 0 P (a0S P HD Q (.lp c t::K)) act w):
  ∀(k t:Nat) (c:Code) (K:List Fr1),ctx t body 0 []=some (c,K)→ ∀k',k≤k'→ ∀act w,(∃j,j≤k∧I j t act w)→(Code.loop c).wpIn (Fr none) 0 P (a0S P (fun t act w=> ∃j,j≤k'∧I j t act w) Q K) act w:=by
 intro k
 induction k using Nat.strongRecOn with
 |_ k ih=>
  intro t c K hc k' hkk act w hh;have h0:At1 body body 0 []:=fun t _ _=>rfl;have ht:t<0+nl body∨ ¬t<0+nl body:=Decidable.em _
  obtain⟨hat,hko⟩:At1 body (.loop c) t K∧KOK body K:=by
   rcases ht with ht|ht
   ·exact b0V h0 trivial (Nat.zero_le _) ht hc
   ·exact absurd (a8h hc).2 ht
  classical
  have low: ∀j act w,j≤k→(∃i,i≤j∧I i t act w)→c.wpIn (Fr none) 0 P (Exit.then (fun act' w'=> ∃i,i<j∧ ∃i',i'≤i∧I i' t act' w') (a0S P (fun t act w=> ∃j,j≤k'∧I j t act w) Q K)) act w:=by
   rintro j act w hj ⟨i,hi,hr⟩;have:=hI i t act w hr c K hc hat hko (fun s act w=> ∃i',i'<i∧I i' s act w) (fun s act w hs=>⟨hs,fun c' K' hc'=> ?_⟩)
   ·refine wpIn_mono this fun e act' w' h=> ?_;simp only[a0S]at h;refine a4C (fun act w=> ?_) (a1k (fun n act w=> ?_) K) e act' w' h
    ·rintro⟨i',h1,h2⟩;exact⟨i',by omega,i',Nat.le_refl _,h2⟩
    ·rintro⟨i',h1,h2⟩;exact⟨i',by omega,h2⟩
   ·obtain⟨i',h1,h2⟩:=hs;have:=ih i' (by omega) s c' K' hc' (i-1) (by omega) act w ⟨i',Nat.le_refl _,h2⟩;refine wpIn_mono this (a1k (fun n act w=> ?_) K');rintro⟨q,q1,q2⟩;exact⟨q,by omega,q2⟩
  refine wpIn_loop (fun act w=> ∃j,j≤k∧I j t act w) (fun act w=>leastOf fun j=>I j t act w) hh ?_;rintro act w ⟨j,hj,hh⟩;obtain⟨hmin,hle⟩:=a6m (p:=fun j=>I j t act w) ⟨j,hh⟩;have hle:=hle j hh;refine wpIn_mono (low _ act w (by omega) ⟨_,Nat.le_refl _,hmin⟩) fun e act' w' h=> ?_;refine a4C (fun act' w'=> ?_) (fun _ _ _ h=>h) e act' w' h;rintro⟨i,hi,i',hi',hi2⟩;refine⟨⟨i',by omega,hi2⟩, ?_⟩;exact Nat.lt_of_le_of_lt ((a6m (p:=fun j=>I j t act' w') ⟨i',hi2⟩).2 i' hi2) (by omega)
end
theorem c7X[Ext]{P:Program}(hng:a6U P)(hm:P.follows .mixedOrders=true){kn:KN}(hK:c4o P kn)(n:Nat):CEokT P False (fun _=>True) (evN P (a3a P) kn n).1.2:=
 (a8c hng (fun _ h=>a3K hng hm h) hK n).2.1.2
section
variable{P:Program}{Q:Exit→Act→World→Prop}{HD:Nat→Act→World→Prop}
end
structure Anc(w0 w:World):Prop where
 wk:WK w0 w
 old: ∀k,k<w0.heap.size→w.heap[k]? =w0.heap[k]?
theorem Anc.refl(w:World):Anc w w:=⟨.refl w,fun _ _=>rfl⟩
theorem Anc.trans{a b c:World}(h:Anc a b)(k:Anc b c):Anc a c:=⟨h.wk.trans k.wk,fun i hi=>by rw[k.old i (Nat.lt_of_lt_of_le hi h.wk.size),h.old i hi]⟩
theorem RSN.anc[Ext]{w0:World}{R:Rho→Prop}{sz:Nat}{a:VT}{H:VH}{act:Act}{w:World}(k:RSN w0 R sz a H act w)(hno: ∀k,¬Ext.own k:=by intro k h;exact h):Anc w0 w:=by obtain⟨φ,k1,k2,k3,k4,k5,k6⟩:=k;exact⟨k4,fun k hk=>k3.old.same k hk (hno k)⟩
def RSG[Ext](F:Frm)(w0:World)(R:Rho→Prop)(sz:Nat)(a:VT)(H:VH)(act:Act)(w:World):Prop:=
 ∃φ:Phi,R φ.ρ∧TR φ a act.tmps∧HSim w0 φ H w∧FrOK F φ w∧act.tmps.size=sz∧act.defers= []
section
variable{P:Program}{Q:Exit→Act→World→Prop}{HD:Nat→Act→World→Prop}
theorem a3N[Ext]{Rr:Option Nat→Prop}(hRr:Rr none){rc:CE}(hrc:CEokT P False Rr rc){F:Frm}{w0:World}{R:Rho→Prop}{sz nt:Nat}(hnt:nt≤top)(hsz:nt≤sz){body:Code}{S:List Nat}: ∀{f:Nat} {c:Code} {n:Nat} {K:List Fr1} {a:VT} {H:VH} {o:SegO},At1 body c n K→KOK body K→seg rc nt S f c n K a H=some o→
  ∀{act:Act} {w:World},RSG F w0 R sz a H act w→
  (match o with
   |.cut t a' H'=> ∀act' w',H'.base=H.base→RSG F w0 R sz a' H' act' w'→HD t act' w'∧ ∀c' K',ctx t body 0 []=some (c',K')→(Code.loop c').wpIn (Fr none) 0 P (a0S P HD Q K') act' w'
   |.out x a' H'=> ∀act' w',H'.base=H.base→RSG F w0 R sz a' H' act' w'→Q x.real act' w')→
  c.wpIn (Fr none) 0 P (a0S P HD Q K) act w
 |0,c,n,K,a,H,o,_,_,h,_,_,_,_=>by simp[seg]at h
 |f+1,c,n,K,a,H,o,hat,hk,h,act,w,k,hq=>by
  simp only[seg]at h;split at h
  ·split at h
   ·rename_i x a' H' hr;obtain⟨φ,k1,k2,k3,k4,k5,k6⟩:=k;refine wpIn_mono (hrc w0 nt c a H x a' H' hr hnt none hRr φ act w k2 k3 (by omega) (fun _=>False) (fun h=>h.elim) (by rw[k6];exact .nil)) ?_;rintro e act' w' ⟨φ',rfl,h2,h3,h4,q1,h6,h7⟩;have q2:RSG F w0 R sz a' H' act' w':=⟨φ',by rw[h2.le.2];exact k1,h3,h4,k4.step h2,h6.trans k5,h7.no⟩;refine a1u hk ?_;split at h
    ·rename_i y m K' hp;rw[hp];intro g1 g2;refine a3N hRr hrc hnt hsz g1 g2 h q2 ?_;cases o with
     |cut t a'' H''=>exact fun act'' w'' e=>hq act'' w'' (e.trans q1)
     |out x a'' H''=>exact fun act'' w'' e=>hq act'' w'' (e.trans q1)
    ·rename_i m hp;rw[hp];simp only[Option.some.injEq]at h;subst h;exact(hq act' w' q1 q2).1
    ·rename_i x' hp;rw[hp];simp only[Option.some.injEq]at h;subst h;exact hq act' w' q1 q2
   ·cases h
  ·split at h
   ·rename_i x y _;refine wpIn_seq ?_;exact a3N hRr hrc hnt hsz (K:=.sq y (n+nl x)::K) hat.seq.1 ⟨hat.seq.2,hk⟩ h k hq
   ·rename_i id c _;refine wpIn_block ?_;exact a3N hRr hrc hnt hsz (K:=.bk id::K) hat.block hk h k hq
   ·rename_i oc x y _;split at h
    ·rename_i b hb;obtain⟨φ,k1,k2,k3⟩:=k;have hv:=a0B k2 hb;simp only[VR]at hv;have k:RSG F w0 R sz a H act w:=⟨φ,k1,k2,k3⟩;split at h
     ·exact wpIn_cond hv (a3N hRr hrc hnt hsz hat.cond.1 hk h k hq)
     ·exact wpIn_cond hv (a3N hRr hrc hnt hsz hat.cond.2 hk h k hq)
    ·cases h
   ·simp only[Option.some.injEq]at h;subst h;exact(hq act w rfl k).2 _ _ hat.loop.1
   ·cases h
end
def less(w:World)(b:Nat):World:={w with heap:=w.heap.setIfInBounds b (.deferred none)}
theorem c6s(w:World)(b:Nat):(less w b).heap.size=w.heap.size:=by simp[less]
theorem b4B{w:World}{b k:Nat}(h:k≠b):(less w b).heap[k]? =w.heap[k]? :=by show(w.heap.setIfInBounds b (.deferred none))[k]? =_;rw[Array.getElem?_setIfInBounds,if_neg (fun e=>h e.symm)]
theorem c6t{w:World}{b:Nat}{a:Addr}{v:Value}(hb:b<w.heap.size)(h:(less w b).cell? a=some v):a.block≠b∧w.cell? a=some v:=by
 by_cases e:a.block=b
 ·exfalso;unfold World.cell? at h
  have e1:(less w b).heap[a.block]? =some (.deferred none):=by rw[e];show(w.heap.setIfInBounds b (.deferred none))[b]? =_;rw[Array.getElem?_setIfInBounds,if_pos rfl,if_pos hb]
  rw[e1]at h;cases h
 ·refine⟨e, ?_⟩;rw[←h];unfold World.cell?;rw[b4B e]
theorem a8n{P:Program}{f:FuncId}{fn:Func}{c:Code}{args':List Value}{w:World}{R:Ending→World→Prop}(hf:P.funcs[f]? =some fn)(hc:fn.body=some c)
  (h:c.wpIn (Fr none) 0 P (fun e act' w'=>(e= .ret∨e= .normal)∧act'.defers= []∧ ∃v,(results fn act'.tmps).run P w'= .ok v w'∧R (.returned v) w') {tmps:=(⟨args'⟩:Array Value)++Array.replicate (fn.ntmps-(⟨args'⟩:Array Value).size) undef,defers:=[]} w):Calls P f ⟨args'⟩ w R:=by
 refine(callsIn_wide (n:=0)).1 (callsIn_of_wp_marks hf hc trivial (wpIn_mono h ?_));rintro e act' w' ⟨he,hd,v,hr,hR⟩;rcases he with rfl|rfl
 ·show LeavesInM Fence.wide 0 P fn act'.tmps _ act'.defers .returning w';rw[hd];exact⟨v,hr,hR⟩
 ·show LeavesInM Fence.wide 0 P fn act'.tmps _ act'.defers .returning w';rw[hd];exact⟨v,hr,hR⟩
def d2d(P:Program)(ops:Array Oper)(Q:Exit→Act→World→Prop)(r:List Nat):Exit→Act→World→Prop
 |.normal,a,w=>wpOpsIn (Fr none) 0 P ops Q r a w|e,a,w=>Q e a w
theorem b6V{P:Program}{o:Oper}{a:Act}{n1 n2:Act→World→Prop}{Q1 Q2:Exit→Act→World→Prop}(hn: ∀a w,n1 a w→n2 a w)(hp: ∀c a w,Q1 (.panic c) a w→Q2 (.panic c) a w)(hl:LetsOut Q1→LetsOut Q2){x:Result Next}(h:o.uponIn (Fr none) 0 P a n1 Q1 x):o.uponIn (Fr none) 0 P a n2 Q2 x:=by
 unfold Oper.uponIn at h ⊢;split at h
 ·exact hn _ _ h
 ·exact hn _ _ h
 ·exact hn _ _ h
 ·refine⟨h.1,h.2.mono fun e w' k=> ?_⟩;cases e with
  |returned v=>exact hn _ _ k
  |panicked c=>exact hp _ _ _ k
  |outgrown=>exact hl k
 ·obtain⟨h1,h2⟩:=h;exact⟨h1,fun fr cs hr=>let ⟨v,w',k,s⟩:=h2 fr cs hr;⟨v,w',hn _ _ k,s⟩⟩
 ·obtain⟨h1,h2,h3⟩:=h;refine⟨h1,h2,fun fr cs hr=> ?_⟩;obtain⟨e,w',k,s⟩:=h3 fr cs hr;refine⟨e,w', ?_,s⟩;cases e with
  |returned v=>exact hn _ _ k
  |panicked c=>exact hp _ _ _ k
  |outgrown=>exact hl k
 ·exact hp _ _ _ h
 ·exact h.elim
theorem a5I{P:Program}{ops:Array Oper}{Q:Exit→Act→World→Prop}{r:List Nat}: ∀{l:List Nat} {a:Act} {w:World},wpOpsIn (Fr none) 0 P ops (d2d P ops Q r) l a w→wpOpsIn (Fr none) 0 P ops Q (l++r) a w
 | [],a,w,h=>h
 |i::l,a,w,h=>by
  simp only[List.cons_append,wpOpsIn]at h ⊢;split
  ·rename_i ho;rw[ho]at h;exact a5I h
  ·rename_i o ho;rw[ho]at h;simp only at h;split
   ·rename_i hw;rw[if_pos hw]at h;exact⟨h.1,b6V (fun _ _ k=>a5I k) (fun _ _ _ k=>k) (fun k=>k) h.2⟩
   ·rename_i hw;rw[if_neg hw]at h;exact⟨h.1,a5I h.2⟩
theorem a8D[Ext]{P:Program}(hng:a6U P){fe:FE}(hfe:FEok P fe){w0:World}{nt:Nat}(hb:nt≤top){all post:List Oper}(r:Option Nat): ∀(l pre:List Oper) (a:VT) (H:VH) (a₁:VT) (H₁:VH),all=pre++(l++post)→a2F P fe nt all l a H=some (a₁,H₁)→
  ∀(φ:Phi) (act:Act) (w:World),TR φ a act.tmps→HSim w0 φ H w→nt≤act.tmps.size→ ∀b',MarksOK b' w0 φ H w act.defers→ ∀(Q:Exit→Act→World→Prop),(∀act' w',PostC b' w0 φ w act.tmps.size H .normal a₁ H₁ .normal act' w'→Q .normal act' w')→
  wpOpsIn (Fr r) 0 P ⟨all⟩ Q (List.range' pre.length l.length) act w:=by
 intro l
 induction l with
 |nil=>intro pre a H a₁ H₁ _ h φ act w ht hs hn b' hdf Q hQ;simp only[a2F,Option.some.injEq,Prod.mk.injEq]at h;obtain⟨rfl,rfl⟩:=h;exact hQ act w ⟨φ,rfl,.refl φ w,ht,hs,rfl,rfl,hdf⟩
 |cons o l ih=>
  intro pre a H a₁ H₁ hall h φ act w ht hs hn b' hdf Q hQ;have hget:(⟨all⟩:Array Oper)[pre.length]? =some o:=by simp[hall]
  simp only[List.length_cons,List.range'_succ,wpOpsIn,hget];have hall':all=(pre++ [o])++(l++post):=by simp[hall]
  have hlen:(pre++ [o]).length=pre.length+1:=by simp
  simp only[a2F]at h;cases hgo:gOk all a o.guard with
  |false=>rw[hgo]at h;cases h
  |true=>
  rw[hgo]at h;simp only at h;have hwant:=a3F (ops:=all) ht o hgo;cases hw:a1q all a o.guard with
  |true=>
   rw[hw]at h hwant;rw[if_pos hwant];simp only at h;cases hr:a3g P fe o.op a H with
   |none=>rw[hr]at h;cases h
   |some vh=>
    obtain⟨v,H'⟩:=vh;rw[hr]at h;simp only at h;cases hp:a5T nt a o.dst v with
    |none=>rw[hp]at h;cases h
    |some a'=>
     rw[hp]at h;simp only at h;refine b2H hng hfe ht hs (a4Z hr) hr r _ _ ?_;intro v' w₁ φ₁ k1 k2 k3 k4;obtain⟨p1,p2,p3⟩:=a2a (ht.mono k1.le) hn hb k2 hp;have:=ih (pre++ [o]) a' H' a₁ H₁ hall' h φ₁ (act.put o.dst v') w₁ p1 k3 (by omega) b' (by rw[p3];exact hdf.step k1 k4) Q (fun act' w' hp'=>hQ act' w' (by rw[p2]at hp';exact PostC.trans k1 k4 hp'))
     rwa [hlen]at this
  |false=>
   rw[hw]at h hwant;rw[if_neg (by simp[hwant])];simp only at h;refine⟨fun _ _=>trivial, ?_⟩;cases hp:a5T nt a o.dst a3P with
   |none=>rw[hp]at h;cases h
   |some a'=>
    rw[hp]at h;simp only at h;obtain⟨p1,p2,p3⟩:=a2a ht hn hb (a2R φ) hp;have:=ih (pre++ [o]) a' H a₁ H₁ hall' h φ (act.put o.dst undef) w p1 hs (by omega) b' (by rw[p3];exact hdf) Q (fun act' w' hp'=>hQ act' w' (by rw[p2]at hp';exact hp'))
    rwa [hlen]at this
theorem a6g[Ext]{P:Program}(hng:a6U P){fe:FE}(hfe:FEok P fe){w0:World}{R:Rho→Prop}{sz nt:Nat}(hnt:nt≤top)(hsz:nt≤sz){all pre l post:List Oper}(hall:all=pre++(l++post)){a a₁:VT}{H H₁:VH}(hr:a2F P fe nt all l a H=some (a₁,H₁)){act:Act}{w:World}(k:RSN w0 R sz a H act w){Q:Exit→Act→World→Prop}{rest:List Nat}
  (hQ: ∀act' w',H₁.base=H.base→RSN w0 R sz a₁ H₁ act' w'→wpOpsIn (Fr none) 0 P ⟨all⟩ Q rest act' w'):wpOpsIn (Fr none) 0 P ⟨all⟩ Q (List.range' pre.length l.length++rest) act w:=by
 obtain⟨φ,k1,k2,k3,k4,k5,k6⟩:=k;refine a5I (a8D hng hfe hnt none l pre a H a₁ H₁ hall hr φ act w k2 k3 (by omega) (fun _=>False) (by rw[k6];exact .nil) _ ?_);rintro act' w' ⟨φ',_,h2,h3,h4,q1,h6,h7⟩;exact hQ act' w' q1 ⟨φ',by rw[h2.le.2];exact k1,h3,h4,k4.trans h2.wk,h6.trans k5,h7.no⟩
def d5D:Nat→List VV
 |0=>[]|n+1=>.any::d5D n
theorem b6A: ∀n,(d5D n).length=n
 |0=>rfl
 |n+1=>by simp[d5D,b6A n]
theorem c3I: ∀(n i:Nat),i<n→(d5D n)[i]? =some .any
 |0,i,h=>by omega
 |n+1,0,_=>by simp[d5D]
 |n+1,i+1,h=>by simpa[d5D]using c3I n i (by omega)
def d2t:List (Nat×VV)→VT→VT
 | [],a=>a|p::l,a=>d2t l (a.put p.1 p.2)
def mkT(nt:Nat)(l:List (Nat×VV)):VT:=d2t l (a5E (d5D nt) 0 .lf)
theorem TR.put1{φ:Phi}{a:VT}{tmps:Array Value}(h:TR φ a tmps){k:Nat}{x:VV}(hk:k<top)(hx:VR φ x (tmps.getD k undef)):TR φ (a.put k x) tmps:=by
 intro t;unfold a1I
 by_cases e:t=k
 ·subst e;rw[TT.get_put_same _ _ _ hk];exact hx
 ·rw[TT.get_put_other _ _ _ _ e];exact h t
theorem c1p{φ:Phi}{tmps:Array Value}: ∀{l:List (Nat×VV)} {a:VT},TR φ a tmps→(∀p∈l,p.1<top∧VR φ p.2 (tmps.getD p.1 undef))→TR φ (d2t l a) tmps
 | [],a,h,_=>h
 |p::l,a,h,hl=>c1p (l:=l) (a:=a.put p.1 p.2) (h.put1 (hl p List.mem_cons_self).1 (hl p List.mem_cons_self).2) fun q hq=>hl q (List.mem_cons_of_mem _ hq)
theorem c2I{φ:Phi}{tmps:Array Value}{nt:Nat}{l:List (Nat×VV)}(hsz:tmps.size=nt)(hnt:nt≤top)(hl: ∀p∈l,p.1<top∧VR φ p.2 (tmps.getD p.1 undef)):TR φ (mkT nt l) tmps:=by
 refine c1p (fun t=> ?_) hl;rw[a8N _ _ _ _ (by rw[b6A];omega),b6A]
 by_cases ht:t<nt
 ·rw[if_pos ⟨by omega,by omega⟩,c3I nt (t-0) (by omega)];simp only[Option.getD_some,VR]
 ·rw[if_neg (by omega)];have:tmps.getD t undef=undef:=by simp[Array.getD,show¬t<tmps.size by omega]
  rw[this];exact a2R φ
def a8R(a:VT):List (Nat×VV)→Bool
 | []=>true
 |p::l=>match a1E (a1I a p.1) p.2 with
  |true=>a8R a l|false=>false
theorem a4c{a:VT}{φ:Phi}{tmps:Array Value}(ht:TR φ a tmps): ∀{l:List (Nat×VV)},a8R a l=true→ ∀p∈l,VR φ p.2 (tmps.getD p.1 undef)
 | [],_,p,hp=>by cases hp
 |q::l,h,p,hp=>by
  simp only[a8R]at h;split at h
  ·rename_i hv;rcases List.mem_cons.1 hp with rfl|hp
   ·have:=ht p.1;rw[a0f _ _ hv]at this;exact this
   ·exact a4c ht h p hp
  ·cases h
abbrev XK(P:Program)(K:List KE)(S:Nat→Prop):Ext:=⟨fun ρ w=> ∀e∈K,c4j P ρ w e S,S⟩
abbrev rcK(P:Program)(K:List KE):Go.Ev.CE:=(evN P (a3a P) (knL K) 20000).1.2
theorem e1c{P:Program}(hng:a6U P)(hm:P.follows .mixedOrders=true){K:List KE}{S:Nat→Prop}: @CEokT (XK P K S) P False (fun _=>True) (rcK P K):=by
 letI:Ext:=XK P K S
 exact c7X hng hm (c2R fun _ _ h=>h) 20000
structure Beh[Ext](w0:World)(f0:Nat→Option Inf)(S:Nat→Prop)(ρ:Rho)(nt:Nat)(w:World)(a':VT)(H':VH)(act':Act)(w':World)(φ:Phi):Prop where
 rho:φ.ρ=ρ
 tr:TR φ a' act'.tmps
 sim:HSim w0 φ H' w'
 wk:WK w w'
 same: ∀k,k<w.heap.size→ ¬S k→w'.heap[k]? =w.heap[k]?
 pin: ∀i inf,f0 i=some inf→φ i=some inf
 own: ∀i inf,φ i=some inf→S inf.blk∨w.heap.size≤inf.blk
 sz:act'.tmps.size=nt
 df:act'.defers= []
section
variable{P:Program}{Q:Exit→Act→World→Prop}{HD:Nat→Act→World→Prop}
theorem d0D[X:Ext]{rc:Go.Ev.CE}(hrc:CEokT P False (fun _=>True) rc){nt:Nat}(hnt:nt≤top){body:Code}{S:List Nat}{f:Nat}{c:Code}{n:Nat}{K:List Fr1}{a:VT}{H:VH}{so:SegO}(hat:At1 body c n K)(hko:KOK body K)(hs:seg rc nt S f c n K a H=some so)
  {w0:World} {f0:Nat→Option Inf} {ρ:Rho} {act:Act} {w:World} (ht:TR ⟨f0,ρ⟩ a act.tmps) (hsim:HSim w0 ⟨f0,ρ⟩ H w) (hsz:act.tmps.size=nt) (hd:act.defers= [])
  (hgo:match so with
   |.cut t a' H'=> ∀act' w' φ,Beh w0 f0 (fun k=> ∃i inf,f0 i=some inf∧inf.blk=k) ρ nt w a' H' act' w' φ→HD t act' w'∧ ∀c' K',ctx t body 0 []=some (c',K')→(Code.loop c').wpIn (Fr none) 0 P (a0S P HD Q K') act' w'
   |.out x a' H'=> ∀act' w' φ,Beh w0 f0 (fun k=> ∃i inf,f0 i=some inf∧inf.blk=k) ρ nt w a' H' act' w' φ→Q x.real act' w'):
  c.wpIn (Fr none) 0 P (a0S P HD Q K) act w:=by
 have k0:RSG ⟨w,f0⟩ w0 (· =ρ) nt a H act w:=⟨⟨f0,ρ⟩,rfl,ht,hsim,.start,hsz,hd⟩
 have beh: ∀{a' H' act' w'},RSG ⟨w,f0⟩ w0 (· =ρ) nt a' H' act' w'→ ∃φ,Beh w0 f0 (fun k=> ∃i inf,f0 i=some inf∧inf.blk=k) ρ nt w a' H' act' w' φ:=by rintro a' H' act' w' ⟨φ,k1,k2,k3,k4,k5,k6⟩;exact⟨φ,k1,k2,k3,k4.wk,fun k hk hn=>k4.frame k hk hn,k4.pin,k4.own,k5,k6⟩
 refine a3N (Rr:=fun _=>True) trivial hrc hnt (Nat.le_refl _) hat hko hs k0 ?_;cases so with
 |cut t a' H'=>intro act' w' _ k;obtain⟨φ,b⟩:=beh k;exact hgo act' w' φ b
 |out x a' H'=>intro act' w' _ k;obtain⟨φ,b⟩:=beh k;exact hgo act' w' φ b
theorem a9F[X:Ext]{rc:Go.Ev.CE}(hrc:CEokT P False (fun _=>True) rc){nt:Nat}(hnt:nt≤top){body:Code}{S:List Nat}{f:Nat}{c:Code}{n:Nat}{K:List Fr1}{a:VT}{E:Env}{so:SegO}(hat:At1 body c n K)(hko:KOK body K)(hs:seg rc nt S f c n K a ⟨E,.lf,0⟩=some so)
  {ρ:Rho} {act:Act} {w:World} (ht:TR ⟨fun _=>none,ρ⟩ a act.tmps) (hE:EnvOK E ⟨fun _=>none,ρ⟩ w) (hb: ∀r,E.blk r=none) (hsz:act.tmps.size=nt) (hd:act.defers= []) (hno: ∀k,¬Ext.own k)
  (hgo:match so with
   |.cut t a' H'=> ∀act' w' φ,Beh w (fun _=>none) (fun _=>False) ρ nt w a' H' act' w' φ→HD t act' w'∧ ∀c' K',ctx t body 0 []=some (c',K')→(Code.loop c').wpIn (Fr none) 0 P (a0S P HD Q K') act' w'
   |.out x a' H'=> ∀act' w' φ,Beh w (fun _=>none) (fun _=>False) ρ nt w a' H' act' w' φ→Q x.real act' w'):
  c.wpIn (Fr none) 0 P (a0S P HD Q K) act w:=by
 have conv: ∀{a' H' act' w' φ},Beh w (fun _=>none) (fun k=> ∃(i:Nat) (inf:Inf),(fun _=>none:Nat→Option Inf) i=some inf∧inf.blk=k) ρ nt w a' H' act' w' φ→Beh w (fun _=>none) (fun _=>False) ρ nt w a' H' act' w' φ:=fun b=>⟨b.rho,b.tr,b.sim,b.wk,fun k hk _=>b.same k hk (fun⟨_,_,h,_⟩=>by cases h),b.pin,fun i inf hi=>(b.own i inf hi).elim (fun⟨_,_,h,_⟩=>by cases h) .inr,b.sz,b.df⟩
 refine d0D hrc hnt hat hko hs ht (HSim.startE hE (fun r b h=>by rw[hb r]at h;cases h) hno) hsz hd ?_;cases so with
 |cut t a' H'=>exact fun act' w' φ b=>hgo act' w' φ (conv b)
 |out x a' H'=>exact fun act' w' φ b=>hgo act' w' φ (conv b)
end
theorem Beh.cell[Ext]{w0:World}{f0:Nat→Option Inf}{S:Nat→Prop}{ρ:Rho}{nt:Nat}{w:World}{a':VT}{H':VH}{act':Act}{w':World}{φ:Phi}(h:Beh w0 f0 S ρ nt w a' H' act' w' φ){a:Addr}{v:Value}(hb:a.block<w.heap.size)(hn: ¬S a.block)(hv:w.cell? a=some v):w'.cell? a=some v:=by rw[←hv];unfold World.cell?;rw[h.same _ hb hn]
theorem Beh.blk[Ext]{w0:World}{f0:Nat→Option Inf}{S:Nat→Prop}{ρ:Rho}{nt:Nat}{w:World}{a':VT}{H':VH}{act':Act}{w':World}{φ:Phi}(h:Beh w0 f0 S ρ nt w a' H' act' w' φ){k:Nat}{c:List VV}{g:Option Nat}{ro:Nat}{et:Option TypeId}(hk:H'.locs.get k=some (.cells c g ro et)): ∃inf c' e fr,φ k=some inf∧w'.heap[inf.blk]? =some (.cells c' e fr)∧CR φ inf c g ro et c' e fr:=by obtain⟨inf,o',h1,h2,⟨c',e,fr,rfl,h3⟩,_⟩:=h.sim.live k _ hk;exact⟨inf,c',e,fr,h1,h2,h3⟩
abbrev d9J(P:Program)(K:List KE)(K2:List KE2):Go.Ev.CE:=(evN P (a3a P) (knA K K2) 20000).1.2
theorem a9Q{P:Program}(hng:a6U P)(hm:P.follows .mixedOrders=true){K:List KE}{K2:List KE2}: @CEokT (a0i P K K2) P False (fun _=>True) (d9J P K K2):=by
 letI:Ext:=a0i P K K2
 exact c7X hng hm c7C 20000
theorem a1C[Ext]{P:Program}{rc:Go.Ev.CE}(hrc:CEokT P False (fun _=>True) rc){w0:World}{R:Rho→Prop}{sz nt:Nat}(hnt:nt≤top)(hsz:nt≤sz){c:Code}{a a':VT}{H H':VH}{x:VX}(hr:rc nt c a H=some (x,a',H')){act:Act}{w:World}(k:RSN w0 R sz a H act w){Q:Exit→Act→World→Prop}
  (hq: ∀act' w',H'.base=H.base→RSN w0 R sz a' H' act' w'→Q x.real act' w'):c.wpIn (Fr none) 0 P Q act w:=by
 obtain⟨φ,k1,k2,k3,k4,k5,k6⟩:=k;refine wpIn_mono (hrc w0 nt c a H x a' H' hr hnt none trivial φ act w k2 k3 (by omega) (fun _=>False) (fun h=>h.elim) (by rw[k6];exact .nil)) ?_;rintro e act' w' ⟨φ',rfl,h2,h3,h4,q1,h6,h7⟩;exact hq act' w' q1 ⟨φ',by rw[h2.le.2];exact k1,h3,h4,k4.trans h2.wk,h6.trans k5,h7.no⟩
theorem RSN.here[X:Ext]{ρ:Rho}{E:Env}{nt:Nat}{l:List (Nat×VV)}{act:Act}{w:World}(hsz:act.tmps.size=nt)(hnt:nt≤top)(hd:act.defers= [])(hl: ∀p∈l,p.1<top∧VR ⟨fun _=>none,ρ⟩ p.2 (act.tmps.getD p.1 undef))(hE:EnvOK E ⟨fun _=>none,ρ⟩ w)(hb: ∀r,E.blk r=none)(hno: ∀k,¬Ext.own k:=by intro k h;exact h):
  RSN w (· =ρ) nt (mkT nt l) ⟨E,.lf,0⟩ act w:=
 ⟨⟨fun _=>none,ρ⟩,rfl,c2I hsz hnt hl,HSim.startE hE (fun r b h=>by rw[hb r]at h;cases h) hno,.refl w,hsz,hd⟩
theorem RSN.blk[Ext]{w0:World}{ρ:Rho}{sz:Nat}{a:VT}{H:VH}{act:Act}{w:World}(k:RSN w0 (· =ρ) sz a H act w): ∃φ:Phi,φ.ρ=ρ∧TR φ a act.tmps∧HSim w0 φ H w∧WK w0 w∧act.tmps.size=sz∧act.defers= []:=k
theorem b6p(act:Act)(d:Option Tmp)(v:Value):(act.put d v).tmps.size=act.tmps.size:=by
 cases d with
 |none=>rfl
 |some d=>simp[Act.put]
theorem b6q{act:Act}{d:Nat}{v:Value}(h:d<act.tmps.size):(act.put (some d) v).tmps.getD d undef=v:=by simp[Act.put,Array.getD,h]
theorem b3q{act:Act}{d k:Nat}{v:Value}(h:k≠d):(act.put (some d) v).tmps.getD k undef=act.tmps.getD k undef:=by simp only[Act.put,Array.getD_eq_getD_getElem?,Array.getElem?_setIfInBounds];rw[if_neg (fun e=>h e.symm)]
theorem b1z(act:Act)(d:Option Tmp)(v:Value):(act.put d v).defers=act.defers:=by cases d<;>rfl
end
end Go.Ev
