/- Engine, part 2: a function as an automaton: its soundness. -/
import Derived.Test.YtmmmknhdigapkaaEv1
namespace Go.Ev
set_option linter.unusedVariables false
noncomputable section
open Go.RowKit
section
variable{P:Program}{Q:Exit→Act→World→Prop}{HD:Nat→Act→World→Prop}
theorem a1u{body:Code}{act:Act}{w:World}: ∀{K:List Fr1} {x:VX},KOK body K→
  (match pop x K with
   |.code y n K'=>At1 body y n K'→KOK body K'→y.wpIn (Fr none) 0 P (a0S P HD Q K') act w|.head n=>HD n act w
   |.done x=>Q x.real act w)→a0S P HD Q K x.real act w
 | [],x,_,h=>by simpa only[pop,a0S]using h
 |.sq y n::K,x,hk,h=>by
  cases x with
  |normal=>simp only[pop]at h;simp only[a0S,VX.real,Exit.then];exact h hk.1 hk.2
  |ret=>simp only[pop]at h;simp only[a0S,VX.real,Exit.then];exact a1u (x:=.ret) hk.2 h
  |exit j=>simp only[pop]at h;simp only[a0S,VX.real,Exit.then];exact a1u (x:=.exit j) hk.2 h
 |.bk id::K,x,hk,h=>by
  cases x with
  |normal=>simp only[pop]at h;simp only[a0S,VX.real,Exit.inBlock];exact a1u (x:=.normal) (show KOK body K from hk) h
  |ret=>simp only[pop]at h;simp only[a0S,VX.real,Exit.inBlock];exact a1u (x:=.ret) (show KOK body K from hk) h
  |exit j=>
   simp only[pop]at h;simp only[a0S,VX.real,Exit.inBlock]
   by_cases e:j=id
   ·subst e;have e1:Nat.beq j j=true:=by simp
    rw[e1]at h;rw[if_pos rfl];exact a1u (x:=.normal) (show KOK body K from hk) h
   ·rw[d4x e]at h;rw[if_neg e];exact a1u (x:=.exit j) (show KOK body K from hk) h
 |.lp c n::K,x,hk,h=>by
  cases x with
  |normal=>simp only[pop]at h;simp only[a0S,VX.real,Exit.then];exact h
  |ret=>simp only[pop]at h;simp only[a0S,VX.real,Exit.then];exact a1u (x:=.ret) (show KOK body K from hk) h
  |exit j=>simp only[pop]at h;simp only[a0S,VX.real,Exit.then];exact a1u (x:=.exit j) (show KOK body K from hk) h
theorem a3U[Ext]{rc:CE}(hrc:d0l P (· =none) rc){w0:World}{R:Rho→Prop}{sz nt:Nat}(hnt:nt≤top)(hsz:nt≤sz){body:Code}{S:List Nat}: ∀{f:Nat} {c:Code} {n:Nat} {K:List Fr1} {a:VT} {H:VH} {o:SegO},At1 body c n K→KOK body K→seg rc nt S f c n K a H=some o→
  ∀{act:Act} {w:World},RS w0 R sz a H act w→
  (match o with
   |.cut t a' H'=> ∀act' w',H'.base=H.base→RS w0 R sz a' H' act' w'→HD t act' w'∧ ∀c' K',ctx t body 0 []=some (c',K')→(Code.loop c').wpIn (Fr none) 0 P (a0S P HD Q K') act' w'
   |.out x a' H'=> ∀act' w',H'.base=H.base→RS w0 R sz a' H' act' w'→Q x.real act' w')→
  c.wpIn (Fr none) 0 P (a0S P HD Q K) act w
 |0,c,n,K,a,H,o,_,_,h,_,_,_,_=>by simp[seg]at h
 |f+1,c,n,K,a,H,o,hat,hk,h,act,w,k,hq=>by
  simp only[seg]at h;split at h
  ·split at h
   ·rename_i x a' H' hr;refine wpIn_mono (RS.cs (fun hnt w0 φ act w ht hs hn b hbs hd=>hrc w0 nt c a H x a' H' hr hnt none rfl φ act w ht hs hn b hbs hd) hnt hsz k) ?_;rintro e act' w' ⟨rfl,q1,q2⟩;refine a1u hk ?_;split at h
    ·rename_i y m K' hp;rw[hp];intro g1 g2;refine a3U hrc hnt hsz g1 g2 h q2 ?_;cases o with
     |cut t a'' H''=>exact fun act'' w'' e=>hq act'' w'' (e.trans q1)
     |out x a'' H''=>exact fun act'' w'' e=>hq act'' w'' (e.trans q1)
    ·rename_i m hp;rw[hp];simp only[Option.some.injEq]at h;subst h;exact(hq act' w' q1 q2).1
    ·rename_i x' hp;rw[hp];simp only[Option.some.injEq]at h;subst h;exact hq act' w' q1 q2
   ·cases h
  ·split at h
   ·rename_i x y _;refine wpIn_seq ?_;exact a3U hrc hnt hsz (K:=.sq y (n+nl x)::K) hat.seq.1 ⟨hat.seq.2,hk⟩ h k hq
   ·rename_i id c _;refine wpIn_block ?_;exact a3U hrc hnt hsz (K:=.bk id::K) hat.block hk h k hq
   ·rename_i oc x y _;split at h
    ·rename_i b hb;obtain⟨φ,k1,k2,k3⟩:=k;have hv:=a0B k2 hb;simp only[VR]at hv;have k:RS w0 R sz a H act w:=⟨φ,k1,k2,k3⟩;split at h
     ·exact wpIn_cond hv (a3U hrc hnt hsz hat.cond.1 hk h k hq)
     ·exact wpIn_cond hv (a3U hrc hnt hsz hat.cond.2 hk h k hq)
    ·cases h
   ·simp only[Option.some.injEq]at h;subst h;exact(hq act w rfl k).2 _ _ hat.loop.1
   ·cases h
end
inductive Leaf where
 |goto (q:Nat) (xs:List VV)
 |ret (r:VV)
structure CutP where
 lab:Option Nat
 a0:VT
 l:TT VO
 nH:Nat
 N:Nat
 ys:List VV
 iv:Ivs
 E:Ivs→List Fact→Env
 tr:TrX Leaf
def CutP.env(c:CutP)(ρ:Rho):Env:=c.E (a2W c.tr.tr ρ.int c.iv []).1 (a2W c.tr.tr ρ.int c.iv []).2
def CutP.run(rc:CE)(nt:Nat)(S:List Nat)(fuel:Nat)(body:Code)(c:CutP)(E:Env):Option SegO:=match c.lab with
 |none=>seg rc nt S fuel body 0 [] c.a0 ⟨E,c.l,c.nH⟩
 |some t=>match ctx t body 0 []with
  |some (b,K)=>seg rc nt S fuel b (t+1) (.lp b t::K) c.a0 ⟨E,c.l,c.nH⟩|none=>none
def c4C:Prs→List VV→List VV→Bool
 | [],[],[]=>true
 |(x,y)::l,x'::xs,y'::ys=>match a1E x x',a1E y y' with
  |true,true=>c4C l xs ys|_,_=>false
 |_,_,_=>false
def carry(ρ ρ':Rho):List VV→List VV→Prop
 | [],[]=>True|x::xs,y::l=>Car ρ ρ' (x,y)∧carry ρ ρ' xs l|_,_=>False
def moveB(d:CutP)(a:VT)(H:VH)(xs:List VV):Bool:=match mvS d.N d.nH (e1f a H.locs d.a0 d.l) a H.locs d.a0 d.l with
 |some ps=>c4C ps xs d.ys|none=>false
def b3c(P:Program)(rc:CE)(nt:Nat)(S:List Nat)(fuel:Nat)(res:List ResultVar)(body:Code)(C:List CutP)(c:CutP)(iv:Ivs)(fs:List Fact):Leaf→Bool
 |.goto q xs=>match c.run rc nt S fuel body (c.E iv fs),a0H C q with
  |some (.cut t a H),some d=>match d.lab with
   |some t'=>match Nat.beq t t' with
    |true=>moveB d a H xs|false=>false
   |none=>false
  |_,_=>false
 |.ret r=>match c.run rc nt S fuel body (c.E iv fs)with
  |some (.out .ret a H)=>match a8E P a H res with
   |some [r']=>a1E r' r|_=>false
  |_=>false
def e3N(P:Program)(rc:CE)(nt:Nat)(S:List Nat)(fuel:Nat)(res:List ResultVar)(body:Code)(C:List CutP)(c:CutP):Bool:=a0p (b3c P rc nt S fuel res body C c) c.tr c.iv []
structure CutP.OK[Ext](c:CutP)(w0:World)(ρ:Rho):Prop where
 ext:Ext.ok ρ w0
 env: ∀φ:Phi,φ.ρ=ρ→EnvM (c.env ρ) φ w0
inductive Runs[Ext](C:List CutP)(w0:World)(res:Value):Nat→Nat→Rho→Prop where
 |ret {p:Nat} {ρ:Rho} {c:CutP} {r:VV}:a0H C p=some c→c.OK w0 ρ→a2V c.tr ρ.int= .ret r→a0g ρ r=some res→Runs C w0 res 0 p ρ
 |step {k p q:Nat} {ρ ρ':Rho} {c d:CutP} {xs:List VV}:a0H C p=some c→c.OK w0 ρ→a2V c.tr ρ.int= .goto q xs→a0H C q=some d→agree d.N ρ ρ'→carry ρ ρ' xs d.ys→Runs C w0 res k q ρ'→Runs C w0 res (k+1) p ρ
theorem Runs.ok[Ext]{C:List CutP}{w0:World}{res:Value}{k p:Nat}{ρ:Rho}(h:Runs C w0 res k p ρ): ∃c,a0H C p=some c∧c.OK w0 ρ:=by
 cases h with
 |ret h1 h2 _ _=>exact⟨_,h1,h2⟩
 |step h1 h2 _ _ _ _ _=>exact⟨_,h1,h2⟩
theorem c2y{ρ ρ':Rho}: ∀{ps:Prs} {xs ys:List VV},c4C ps xs ys=true→carry ρ ρ' xs ys→ ∀p∈ps,Car ρ ρ' p
 | [],_,_,_,_,p,hp=>by cases hp
 |(x,y)::l,xs,ys,h,k,p,hp=>by
  cases xs with
  |nil=>simp[c4C]at h
  |cons x' xs=>cases ys with
   |nil=>simp[c4C]at h
   |cons y' ys=>
    simp only[c4C]at h;split at h
    ·rename_i h1 h2;obtain⟨k1,k2⟩:=k;rcases List.mem_cons.1 hp with rfl|hp
     ·rw[a0f _ _ h1,a0f _ _ h2];exact k1
     ·exact c2y h k2 p hp
    ·cases h
section
variable{P:Program}
def HeadAt[Ext](C:List CutP)(w0:World)(res:Value)(nt:Nat)(k:Nat)(t:Nat)(act:Act)(w:World):Prop:=
 ∃j p c ρ,j≤k∧a0H C p=some c∧c.lab=some t∧Runs C w0 res j p ρ∧RS w0 (· =ρ) nt c.a0 ⟨c.env ρ,c.l,c.nH⟩ act w
theorem HeadAt.mono[Ext]{C:List CutP}{w0:World}{res:Value}{nt k k' t:Nat}(hk:k≤k'){act:Act}{w:World}(h:HeadAt C w0 res nt k t act w):HeadAt C w0 res nt k' t act w:=by obtain⟨j,p,c,ρ,h1,h2⟩:=h;exact⟨j,p,c,ρ,by omega,h2⟩
theorem a8h{t:Nat}: ∀{x:Code} {n:Nat} {K:List Fr1} {r:Code×List Fr1},ctx t x n K=some r→n≤t∧t<n+nl x
 |.seq x y,n,K,r,h=>by
  simp only[ctx]at h;simp only[nl];split at h
  ·have:=a8h h;omega
  ·have:=a8h h;omega
 |.cond o x y,n,K,r,h=>by
  simp only[ctx]at h;simp only[nl];split at h
  ·have:=a8h h;omega
  ·have:=a8h h;omega
 |.block id x,n,K,r,h=>by simp only[ctx]at h;simp only[nl];exact a8h h
 |.loop x,n,K,r,h=>by
  simp only[ctx]at h;simp only[nl];split at h
  ·rename_i hb;have:=Nat.eq_of_beq_eq_true hb;omega
  ·have:=a8h h;omega
 |.skip,n,K,r,h=>by simp[ctx]at h
 |.region ..,n,K,r,h=>by simp[ctx]at h
 |.exit _,n,K,r,h=>by simp[ctx]at h
 |.ret,n,K,r,h=>by simp[ctx]at h
 |.rangeFunc ..,n,K,r,h=>by simp[ctx]at h
 |.goto _,n,K,r,h=>by simp[ctx]at h
 |.label _,n,K,r,h=>by simp[ctx]at h
theorem c2O{p:Nat→Prop}(h: ∃n,p n): ∃m,p m∧ ∀i,p i→m≤i:=by
 obtain⟨n,hn⟩:=h
 induction n using Nat.strongRecOn with
 |_ n ih=>
  by_cases hx: ∃i,i<n∧p i
  ·obtain⟨i,hi,hp⟩:=hx;exact ih i hi hp
  ·exact⟨n,hn,fun i hi=>by
    rcases Nat.lt_or_ge i n with k|k
    ·exact absurd ⟨i,k,hi⟩ hx
    ·exact k⟩
open Classical in
def leastOf(p:Nat→Prop):Nat:=if h: ∃n,p n then Classical.choose (c2O h)else 0
theorem a6m{p:Nat→Prop}(h: ∃n,p n):p (leastOf p)∧ ∀i,p i→leastOf p≤i:=by unfold leastOf;rw[dif_pos h];exact Classical.choose_spec (c2O h)
structure Auto[Ext](P:Program)(rc:CE)(fn:Func)(body:Code)(S:List Nat)(fuel:Nat)(C:List CutP)(B:Nat→Option BO):Prop where
 rcok:d0l P (· =none) rc
 chk: ∀p c,a0H C p=some c→e3N P rc fn.ntmps S fuel fn.results.toList body C c=true
 blk: ∀p c,a0H C p=some c→ ∀iv fs,(c.E iv fs).blk=B
 nt:fn.ntmps≤top
theorem c6A[Ext]{rc:CE}{fn:Func}{body:Code}{S:List Nat}{fuel:Nat}{C:List CutP}{B:Nat→Option BO}(A:Auto P rc fn body S fuel C B){w0:World}{res:Value}{HD:Nat→Act→World→Prop}{k p:Nat}{c:CutP}{ρ:Rho}{b:Code}{n:Nat}{K:List Fr1}(hp:a0H C p=some c)(hrun:c.run rc fn.ntmps S fuel body (c.env ρ)=seg rc fn.ntmps S fuel b n K c.a0 ⟨c.env ρ,c.l,c.nH⟩)(hat:At1 body b n K)(hk:KOK body K)
  (hr:Runs C w0 res k p ρ)
  (hHD: ∀t act w,(∃j,j<k∧HeadAt C w0 res fn.ntmps j t act w)→HD t act w∧ ∀c' K',ctx t body 0 []=some (c',K')→(Code.loop c').wpIn (Fr none) 0 P (a0S P HD (Ends P fn w0 res) K') act w)
  {act:Act} {w:World} (k0:RS w0 (· =ρ) fn.ntmps c.a0 ⟨c.env ρ,c.l,c.nH⟩ act w):b.wpIn (Fr none) 0 P (a0S P HD (Ends P fn w0 res) K) act w:=by
 have key:=b1i (v:=ρ.int) (A.chk p c hp);cases hr with
 |ret h1 h2 h3 h4=>
  rw[hp]at h1;cases h1;rw[h3]at key;simp only[b3c]at key;have e:c.E (a2W c.tr.tr ρ.int c.iv []).1 (a2W c.tr.tr ρ.int c.iv []).2=c.env ρ:=rfl;rw[e]at key;split at key
  ·rename_i a H hseg;split at key
   ·rename_i r' hres;rw[hrun]at hseg;refine a3U A.rcok A.nt (Nat.le_refl _) hat hk hseg k0 fun act' w' _ k'=>⟨rfl,_,a,H,r',k',hres,fun φ v hφ hv=> ?_⟩;rw[a0f _ _ key]at hv;exact a0q (hφ▸h4) hv
   ·cases key
  ·cases key
 | @step k' _ q _ ρ' c' d xs h1 h2 h3 h4 h5 h6 h7=>
  rw[hp]at h1;cases h1;rw[h3]at key;simp only[b3c]at key;have e:c.E (a2W c.tr.tr ρ.int c.iv []).1 (a2W c.tr.tr ρ.int c.iv []).2=c.env ρ:=rfl;rw[e]at key;split at key
  ·rename_i t a H d' hseg hd;rw[h4]at hd;cases hd;split at key
   ·rename_i t' hlab;split at key
    ·rename_i g1;have ht:=Nat.eq_of_beq_eq_true g1;subst ht;unfold moveB at key;split at key
     ·rename_i ps g2;rw[hrun]at hseg;refine a3U A.rcok A.nt (Nat.le_refl _) hat hk hseg k0 fun act' w' hbase k1=>hHD t act' w' ⟨k',by omega,k',q,d,ρ',Nat.le_refl _,h4,hlab,h7, ?_⟩;refine RS.move k1 g2 (by rw[hbase];exact(A.blk q d h4 _ _).trans (A.blk p c hp _ _).symm) h5 (c2y key h6) fun φ hφ=> ?_;obtain⟨d2,hd2,hok⟩:=h7.ok;rw[h4]at hd2;cases hd2;exact(hok.env _ hφ).ok (by rw[hφ];exact hok.ext)
     ·cases key
    ·cases key
   ·cases key
  ·cases key
theorem d3y[Ext]{rc:CE}{fn:Func}{body:Code}{S:List Nat}{fuel:Nat}{C:List CutP}{B:Nat→Option BO}(A:Auto P rc fn body S fuel C B){w0:World}{res:Value}(h0:At1 body body 0 []): ∀(k t:Nat) (c:Code) (K:List Fr1),ctx t body 0 []=some (c,K)→ ∀k',k≤k'→ ∀act w,HeadAt C w0 res fn.ntmps k t act w→(Code.loop c).wpIn (Fr none) 0 P (a0S P (HeadAt C w0 res fn.ntmps k') (Ends P fn w0 res) K) act w:=by
 intro k
 induction k using Nat.strongRecOn with
 |_ k ih=>
  intro t c K hc k' hkk act w hh;have ht:t<0+nl body∨ ¬t<0+nl body:=Decidable.em _
  obtain⟨hat,hko⟩:At1 body (.loop c) t K∧KOK body K:=by
   rcases ht with ht|ht
   ·exact b0V h0 trivial (Nat.zero_le _) ht hc
   ·exact absurd (a8h hc).2 ht
  classical
  have low: ∀j act w,j≤k→HeadAt C w0 res fn.ntmps j t act w→c.wpIn (Fr none) 0 P (Exit.then (fun act' w'=> ∃i,i<j∧HeadAt C w0 res fn.ntmps i t act' w') (a0S P (HeadAt C w0 res fn.ntmps k') (Ends P fn w0 res) K)) act w:=by
   rintro j act w hj ⟨i,p,cp,ρ,hi,hp,hlab,hr,hrs⟩
   have hrun:cp.run rc fn.ntmps S fuel body (cp.env ρ)=seg rc fn.ntmps S fuel c (t+1) (.lp c t::K) cp.a0 ⟨cp.env ρ,cp.l,cp.nH⟩:=by unfold CutP.run;rw[hlab];simp only[hc]
   have:=c6A (HD:=fun s act w=> ∃i',i'<i∧HeadAt C w0 res fn.ntmps i' s act w) A hp hrun (K:=.lp c t::K) hat.loop.2 hko hr (fun s act w hs=>⟨hs,fun c' K' hc'=> ?_⟩) hrs
   ·refine wpIn_mono this fun e act' w' h=> ?_;simp only[a0S]at h;refine a4C (fun act w=> ?_) (a1k (fun n act w=> ?_) K) e act' w' h
    ·rintro⟨i',h1,h2⟩;exact⟨i',by omega,h2⟩
    ·rintro⟨i',h1,h2⟩;exact h2.mono (by omega)
   ·obtain⟨i',h1,h2⟩:=hs;have:=ih i' (by omega) s c' K' hc' (i-1) (by omega) act w h2;refine wpIn_mono this (a1k (fun n act w h=>⟨i-1,by omega,h⟩) K')
  refine wpIn_loop (fun act w=> ∃j,j≤k∧HeadAt C w0 res fn.ntmps j t act w) (fun act w=>leastOf fun j=>HeadAt C w0 res fn.ntmps j t act w) ⟨k,Nat.le_refl _,hh⟩ ?_;rintro act w ⟨j,hj,hh⟩;obtain⟨hmin,hle⟩:=a6m (p:=fun j=>HeadAt C w0 res fn.ntmps j t act w) ⟨j,hh⟩;have hle:=hle j hh;refine wpIn_mono (low _ act w (by omega) hmin) fun e act' w' h=> ?_;refine a4C (fun act' w'=> ?_) (fun _ _ _ h=>h) e act' w' h;rintro⟨i,hi,hi2⟩;refine⟨⟨i,by omega,hi2⟩, ?_⟩;exact Nat.lt_of_le_of_lt ((a6m (p:=fun j=>HeadAt C w0 res fn.ntmps j t act' w') ⟨i,hi2⟩).2 i hi2) hi
theorem c4f[Ext]{rc:CE}{fn:Func}{body:Code}{S:List Nat}{fuel:Nat}{C:List CutP}{B:Nat→Option BO}(A:Auto P rc fn body S fuel C B){f:FuncId}(hf:P.funcs[f]? =some fn)(hbody:fn.body=some body){w0:World}{res:Value}{args:List VV}{args':List Value}{ρ:Rho}{c:CutP}{k:Nat}
  (h1:Nat.ble args.length fn.ntmps=true) (hc:a0H C 0=some c) (e1:c.lab=none) (e2:c.a0=a5E args 0 .lf) (e4:c.l= .lf) (e5:c.nH=0) (hb: ∀r b,B r=some b→ ∃o,w0.heap[r]? =some o∧BOR b o) (ha:VRs ⟨fun _=>none,ρ⟩ args args') (hr:Runs C w0 res k 0 ρ) (hno: ∀k,¬Ext.own k:=by intro k h;exact h):
  Calls P f ⟨args'⟩ w0 fun e w'=>e= .returned res∧Below w0.heap.size w0 w':=by
 obtain⟨c',hc',hok⟩:=hr.ok;rw[hc]at hc';cases hc';have h0:At1 body body 0 []:=fun t _ _=>rfl;refine c9G hf hbody h1 (Nat.ble_eq_true_of_le A.nt) (E:=c.env ρ) ((hok.env _ rfl).ok hok.ext) (fun r b h=>hb r b (by rw[←A.blk 0 c hc];exact h)) ha (hno:=hno) fun act k0=> ?_
 have k1:RS w0 (· =ρ) fn.ntmps c.a0 ⟨c.env ρ,c.l,c.nH⟩ act w0:=by rw[e2,e4,e5];exact k0
 have:=c6A (HD:=HeadAt C w0 res fn.ntmps k) A hc (b:=body) (n:=0) (K:=[]) (by unfold CutP.run;rw[e1]) h0 trivial hr (fun t act w hs=> ?_) k1
 ·simpa only[a0S]using this
 ·obtain⟨j,hj,hh⟩:=hs;exact⟨hh.mono (by omega),fun c' K' hc'=>d3y A h0 j t c' K' hc' k (by omega) act w hh⟩
end
end
end Go.Ev
