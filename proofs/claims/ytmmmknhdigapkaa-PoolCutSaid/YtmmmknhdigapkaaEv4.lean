/- Engine, part 4: automata over an index. -/
import Derived.Test.YtmmmknhdigapkaaEv3
namespace Go.Ev
set_option linter.unusedVariables false
noncomputable section
open Go.RowKit
inductive Rd(C:List CutP)(v:Nat→Nat→Int)(I:Nat→Nat→Prop):Nat→Nat→VV→Prop where
 |ret {p i:Nat} {c:CutP} {r:VV}:a0H C p=some c→I p i→a2V c.tr (v i)= .ret r→Rd C v I p i r
 |next {p i q:Nat} {c:CutP} {r:VV} {k:IntKind} {j:Nat}:a0H C p=some c→I p i→a2V c.tr (v i)= .goto q [.sint k j]→Rd C v I q (i+1) r→Rd C v I p i r
 |zero {p i q:Nat} {c:CutP} {r:VV} {k:IntKind} {z:Int}:a0H C p=some c→I p i→a2V c.tr (v i)= .goto q [.int k z]→Rd C v I q 0 r→Rd C v I p i r
def a9w(nC:Nat)(inL:Bool)(j:Nat):Leaf→Bool
 |.ret r=>match r with
  |.int _ _|.bool _=>true|_=>false
 |.goto q xs=>match xs with
  | [.int .i64 z]=>match Nat.blt 0 q,Nat.blt q nC with
   |true,true=>decide (z=0)
   |_,_=>false
  | [.sint .i64 k]=>match inL,Nat.beq k j,Nat.blt 0 q with
   |true,true,true=>Nat.blt q nC|_,_,_=>false
  |_=>false
def b9i(p:Leaf→Bool):TrX Leaf→Bool
 |.leaf o=>p o
 |.cut _ _ l r=>match b9i p l with
  |true=>b9i p r|false=>false
 |.rel _ _ _ l r=>match b9i p l with
  |true=>b9i p r|false=>false
theorem a2h{p:Leaf→Bool}{v:Nat→Int}: ∀{t:TrX Leaf},b9i p t=true→p (a2V t v)=true
 |.leaf o,h=>h
 |.cut i c l r,h=>by
  simp only[b9i]at h;split at h
  ·rename_i h1;simp only[a2V];split
   ·exact a2h h1
   ·exact a2h h
  ·cases h
 |.rel k i j l r,h=>by
  simp only[b9i]at h;split at h
  ·rename_i h1;simp only[a2V];split
   ·exact a2h h1
   ·exact a2h h
  ·cases h
def c1h(nC ia ib ij:Nat):TrX Leaf→Bool
 |.rel k a b l r=>match Nat.beq a ia,Nat.beq b ib with
  |true,true=>match b9i (a9w nC true ij) l with
   |true=>b9i (a9w nC false ij) r|false=>false
  |_,_=>b9i (a9w nC false ij) (.rel k a b l r)
 |t=>b9i (a9w nC false ij) t
def e1X(ia:Nat):List VV→Bool
 | [.sint .i64 k]=>Nat.beq k ia|_=>false
def a4s(nC ia ib ij:Nat):Nat→List CutP→Bool
 |_,[]=>true
 |n,c::l=>match(match n with|0=>true|_+1=>e1X ia c.ys),c1h nC ia ib ij c.tr with
  |true,true=>a4s nC ia ib ij (n+1) l|_,_=>false
theorem a6b{nC ia ib ij:Nat}: ∀{C:List CutP} {n p:Nat} {c:CutP},a4s nC ia ib ij n C=true→a0H C p=some c→c1h nC ia ib ij c.tr=true∧(n+p≠0→e1X ia c.ys=true)
 | [],_,_,_,_,h=>by simp[a0H]at h
 |x::l,n,p,c,hs,h=>by
  simp only[a4s]at hs;split at hs
  ·rename_i h1 h2;cases p with
   |zero=>
    simp only[a0H,Option.some.injEq]at h;subst h;refine⟨h2,fun hn=> ?_⟩;cases n with
    |zero=>exact absurd rfl hn
    |succ n=>exact h1
   |succ p=>obtain⟨g1,g2⟩:=a6b hs (by simpa only[a0H]using h);exact⟨g1,fun hn=>g2 (by omega)⟩
  ·cases hs
theorem b4C{nC ia ib ij:Nat}{t:TrX Leaf}{v:Nat→Int}(h:c1h nC ia ib ij t=true):
  (∃r,a2V t v= .ret r∧a9w nC true ij (.ret r)=true)∨(∃q,a2V t v= .goto q [.sint .i64 ij]∧0<q∧q<nC∧v ia<v ib)∨(∃q,a2V t v= .goto q [.int .i64 0]∧0<q∧q<nC):=by
 have base: ∀(inL:Bool) (o:Leaf),(inL=true→v ia<v ib)→a9w nC inL ij o=true→(∃r,o= .ret r∧a9w nC true ij (.ret r)=true)∨(∃q,o= .goto q [.sint .i64 ij]∧0<q∧q<nC∧v ia<v ib)∨(∃q,o= .goto q [.int .i64 0]∧0<q∧q<nC):=by
  intro inL o hin ho;cases o with
  |ret r=>exact .inl ⟨r,rfl,ho⟩
  |goto q xs=>
   simp only[a9w]at ho;split at ho
   ·split at ho
    ·rename_i h1 h2;rw[of_decide_eq_true ho];exact .inr (.inr ⟨q,rfl,a0G h1,a0G h2⟩)
    ·cases ho
   ·split at ho
    ·rename_i h0 h1 h2;rw[Nat.eq_of_beq_eq_true h1];exact .inr (.inl ⟨q,rfl,a0G h2,a0G ho,hin rfl⟩)
    ·cases ho
   ·cases ho
 cases t with
 |leaf o=>exact base false _ (fun h=>by cases h) (a2h (v:=v) h)
 |cut i c l r=>exact base false _ (fun h=>by cases h) (a2h (v:=v) h)
 |rel k a b l r=>
  simp only[c1h]at h;split at h
  ·rename_i h1 h2;have e1:=Nat.eq_of_beq_eq_true h1;have e2:=Nat.eq_of_beq_eq_true h2;subst e1 e2;split at h
   ·rename_i h3;simp only[a2V];split
    ·rename_i hlt;exact base true _ (fun _=>hlt) (a2h (v:=v) h3)
    ·exact base false _ (fun h=>by cases h) (a2h (v:=v) h)
   ·cases h
  ·exact base false _ (fun h=>by cases h) (a2h (v:=v) h)
theorem d3q[Ext]{C:List CutP}{I:Nat→Nat→Prop}{w0:World}{ia ib ij n nC:Nat}{rho:Nat→Rho}(hs:a4s nC ia ib ij 0 C=true)(hn:nC=C.length)(ha: ∀i,(rho i).int ia=i)(hb: ∀i,(rho i).int ib=n)(hj: ∀i,i<n→(rho i).int ij=(i:Int)+1)
  (hN: ∀p c,a0H C p=some c→p≠0→ ∀i j,agree c.N (rho i) (rho j)) (hOK: ∀p c,a0H C p=some c→ ∀i,i≤n→I p i→c.OK w0 (rho i)) {p i:Nat} {r:VV} (hr:Rd C (fun i=>(rho i).int) I p i r) (hi:i≤n) {res:Value} (hres: ∀ρ,a0g ρ r=some res): ∃k,Runs C w0 res k p (rho i):=by
 have getq: ∀{q:Nat},q<nC→ ∃d,a0H C q=some d:=fun{q} hq=>by rw[a0K];exact⟨C[q]'(by omega),by simp[show q<C.length by omega]⟩
 have ixq: ∀{q:Nat} {d:CutP},a0H C q=some d→0<q→d.ys= [.sint .i64 ia]:=fun{q d} hd hq=>by
  have:=(a6b hs hd).2 (by omega);unfold e1X at this;split at this
  ·rename_i k e;rw[Nat.eq_of_beq_eq_true this]at e;exact e
  ·cases this
 induction hr with
 |ret h1 hI h2=>exact run_ret h1 (hOK _ _ h1 _ hi hI) h2 (hres _)
 |next h1 hI h2 h3 ih=>
  rename_i p i q c r k j;rcases b4C (v:=(rho i).int) (a6b hs h1).1 with⟨r',e,_⟩|⟨q',e,g0,g1,g2⟩|⟨q',e,g0,g1⟩
  ·rw[h2]at e;cases e
  ·rw[h2]at e;cases e;rw[ha,hb]at g2;obtain⟨d,hd⟩:=getq g1;have ht:=ixq hd g0;refine c1j h1 (hOK _ _ h1 _ hi hI) h2 hd (hN _ _ hd (by omega) _ _) ?_ (ih (by omega) hres);rw[ht];refine⟨⟨_,rfl, ?_⟩,trivial⟩;simp only[a0g,ha,hj i (by omega)];rfl
  ·rw[h2]at e;cases e
 |zero h1 hI h2 h3 ih=>
  rename_i p i q c r k z;rcases b4C (v:=(rho i).int) (a6b hs h1).1 with⟨r',e,_⟩|⟨q',e,g0,g1,g2⟩|⟨q',e,g0,g1⟩
  ·rw[h2]at e;cases e
  ·rw[h2]at e;cases e
  ·rw[h2]at e;cases e;obtain⟨d,hd⟩:=getq g1;have ht:=ixq hd g0;refine c1j h1 (hOK _ _ h1 _ hi hI) h2 hd (hN _ _ hd (by omega) _ _) ?_ (ih (by omega) hres);rw[ht];refine⟨⟨_,rfl, ?_⟩,trivial⟩;simp only[a0g,ha];rfl
theorem d7C{ρ:Rho}{k k':IntKind}{a b:Nat}(P:Program)(w:World)(h:FactOK ρ (.bin .lss (.sint k a) (.sint k' b) (.bool true))):ρ.int a<ρ.int b:=by
 obtain⟨x,y,v,h1,h2,h3,_,_,h4⟩:=h;simp only[a0g,Option.some.injEq]at h1 h2 h3;subst h1 h2 h3;have:=h4 P 0 w
 by_cases hk:k=k'
 ·subst hk;simp[binOp,Op.intCmp]at this;exact this
 ·simp[binOp,hk]at this
def c3M(g:Nat→Bool):Nat→Nat→Bool
 |0,_=>true|m+1,i=>g i&&c3M g m (i+1)
theorem b1b{g:Nat→Bool}: ∀{m i:Nat},c3M g m i=true↔ ∀l,i≤l→l<i+m→g l=true
 |0,i=>⟨fun _ l h1 h2=>by omega,fun _=>rfl⟩
 |m+1,i=>by
  simp only[c3M,Bool.and_eq_true,b1b (m:=m)]
  exact⟨fun⟨h1,h2⟩ l h3 h4=>by
   by_cases e:l=i
   ·subst e;exact h1
   ·exact h2 l (by omega) (by omega),fun h=>⟨h i (Nat.le_refl _) (by omega),fun l h1 h2=>h l (by omega) (by omega)⟩⟩
theorem a5S{C:List CutP}{v:Nat→Nat→Int}{I:Nat→Nat→Prop}{p n j:Nat}{k:IntKind}{c:CutP}{g:Nat→Bool}{rB rG:VV}(hc:a0H C p=some c)(hI: ∀i,i≤n→I p i)(hstep: ∀i,i<n→a2V c.tr (v i)=if g i=true then .goto p [.sint k j]else .ret rB)(hend:Rd C v I p n rG):
  ∀m i,i+m=n→Rd C v I p i (if c3M g m i=true then rG else rB)
 |0,i,h=>by
  have e:i=n:=by omega
  subst e;exact hend
 |m+1,i,h=>by
  have hi:=hstep i (by omega);have ih:=a5S hc hI hstep hend m (i+1) (by omega)
  by_cases hg:g i=true
  ·rw[if_pos hg]at hi;refine .next hc (hI _ (by omega)) hi ?_;simp only[c3M,hg,Bool.true_and];exact ih
  ·rw[if_neg hg]at hi;simp only[c3M,hg,Bool.false_and];exact .ret hc (hI _ (by omega)) hi
def isGo:Leaf→Bool
 |.goto _ _=>true|_=>false
def d4A(q j:Nat)(z:Int):Leaf→Bool
 |.goto q' xs=>match xs with
  | [.sint .i64 k]=>match Nat.beq q' q with
   |true=>Nat.beq k j|false=>false
  |_=>false
 |.ret r=>match r with
  |.int .i64 y=>decide (y=z)
  |_=>false
theorem c0l{q j:Nat}{z:Int}{o:Leaf}(h:d4A q j z o=true):o=if isGo o=true then .goto q [.sint .i64 j]else .ret (.int .i64 z):=by
 cases o with
 |goto q' xs=>
  simp only[d4A]at h;split at h
  ·split at h
   ·rename_i h1;rw[Nat.eq_of_beq_eq_true h1,Nat.eq_of_beq_eq_true h];rfl
   ·cases h
  ·cases h
 |ret r=>
  simp only[d4A]at h;split at h
  ·rw[of_decide_eq_true h];rfl
  ·cases h
def d8v:Ivs→(Nat→Int)→Prop
 | [],_=>True
 |(a,b)::l,f=>(a≤f 0∧f 0≤b)∧d8v l fun i=>f (i+1)
theorem b4D{f:Nat→Int}: ∀{l:Ivs},d8v l f→(∀i,-9223372036854775808≤f i∧f i≤9223372036854775807)→ ∀i,(a2B l i).1≤f i∧f i≤(a2B l i).2
 | [],_,hr=>d3r hr|(_,_)::l,h,hr=>c9x h.1 (fun i=>b4D (f:=fun i=>f (i+1)) h.2 (fun i=>hr (i+1)) i)
theorem a4d{P:Program}{KT:List KE}{m:Nat}{fn:Func}{body:Code}{S:List Nat}{fuel:Nat}{C:List CutP}(A: @Auto (b2i P KT) P (b6m P KT m) fn body S fuel C (fun _=>none)){f:FuncId}(hf:P.funcs[f]? =some fn)(hbody:fn.body=some body){args:List VV}{args':List Value}
  (h1:Nat.ble args.length fn.ntmps=true) {c0:CutP} (hc:a0H C 0=some c0) (e1:c0.lab=none) (e2:c0.a0=a5E args 0 .lf) (e4:c0.l= .lf) (e5:c0.nH=0) {I:Nat→Nat→Prop} {w0:World} {ia ib ij n nC:Nat} {rho:Nat→Rho} (hs:a4s nC ia ib ij 0 C=true) (hn:nC=C.length)
  (ha: ∀i,(rho i).int ia=i) (hb: ∀i,(rho i).int ib=n) (hj: ∀i,i<n→(rho i).int ij=(i:Int)+1) (hN: ∀p c,a0H C p=some c→p≠0→ ∀i j,agree c.N (rho i) (rho j)) (ext: ∀i,i≤n→ ∀e∈KT,c4j P (rho i) w0 e)
  (hOK: ∀p c,a0H C p=some c→ ∀i,i≤n→I p i→IvOK c.iv (rho i)∧ ∀iv fs,IvOK iv (rho i)→b1H fs (rho i)→ ∀φ:Phi,φ.ρ=rho i→EnvP (c.E iv fs) φ w0) {r:VV} {res:Value} (hres: ∀ρ,a0g ρ r=some res) (hr:Rd C (fun i=>(rho i).int) I 0 0 r) (hargs:VRs ⟨fun _=>none,rho 0⟩ args args'):
  Calls P f ⟨args'⟩ w0 fun e w'=>e= .returned res∧Below w0.heap.size w0 w':=by
 letI:Ext:=b2i P KT
 obtain⟨k,hk⟩:=d3q hs hn ha hb hj hN (fun p c hp i hi hI=>CutP.ok_of (ext i hi) (hOK p c hp i hi hI).1 (hOK p c hp i hi hI).2) hr (Nat.zero_le _) hres;exact c4f A hf hbody h1 hc e1 e2 e4 e5 (fun r b h=>by cases h) hargs hk
def ivE(iv:Ivs)(i:Nat):Bool:=decide ((a2B iv i).2<(a2B iv i).1)
def relT(iv:Ivs)(i j:Nat):Ivs:=a0n (a2K iv i ((a2B iv j).2-1)) j ((a2B iv i).1+1)
def relF(iv:Ivs)(i j:Nat):Ivs:=a0n (a2K iv j (a2B iv i).2) i (a2B iv j).1
theorem VOK.relT{iv:Ivs}{rs:c8e}{v:Nat→Int}(h:VOK iv rs v){i j:Nat}(hlt:v i<v j):VOK (relT iv i j) ((i,j,true)::rs) v:=by have h1:=h.1 i;have h2:=h.1 j;exact((h.hi (i:=i) (c:=(a2B iv j).2-1) (by omega)).lo (i:=j) (c:=(a2B iv i).1+1) (by omega)).rel (decide_eq_true hlt)
theorem VOK.relF{iv:Ivs}{rs:c8e}{v:Nat→Int}(h:VOK iv rs v){i j:Nat}(hlt: ¬v i<v j):VOK (relF iv i j) ((i,j,false)::rs) v:=by have h1:=h.1 i;have h2:=h.1 j;exact((h.hi (i:=j) (c:=(a2B iv i).2) (by omega)).lo (i:=i) (c:=(a2B iv j).1) (by omega)).rel (decide_eq_false hlt)
theorem c2V{iv:Ivs}{rs:c8e}{v:Nat→Int}(h:VOK iv rs v){i:Nat}(he:ivE iv i=true):False:=by have h1:=h.1 i;have h2:=of_decide_eq_true he;omega
section
variable{α β:Type}
def c1O(p:β→Bool):TrX β→Ivs→c8e→Bool
 |.leaf b,_,_=>p b
 |.cut i c l r,iv,rs=>match decide ((a2B iv i).2≤c),decide (c<(a2B iv i).1)with
  |true,_=>c1O p l iv rs|_,true=>c1O p r iv rs
  |_,_=>match c1O p l (a2K iv i c) rs with
   |true=>c1O p r (a0n iv i (c+1)) rs|false=>false
 |.rel _ i j l r,iv,rs=>match c8b.relAt rs i j with
  |some true=>c1O p l iv rs|some false=>c1O p r iv rs
  |none=>match(match ivE (relT iv i j) i,ivE (relT iv i j) j with|false,false=>c1O p l (relT iv i j) ((i,j,true)::rs)|_,_=>true)with
   |true=>match ivE (relF iv i j) i,ivE (relF iv i j) j with|false,false=>c1O p r (relF iv i j) ((i,j,false)::rs)|_,_=>true
   |false=>false
theorem a3B{p:β→Bool}{v:Nat→Int}: ∀{t:TrX β} {iv:Ivs} {rs:c8e},c1O p t iv rs=true→VOK iv rs v→p (a2V t v)=true
 |.leaf b,iv,rs,h,_=>h
 |.cut i c l r,iv,rs,h,hv=>by
  simp only[c1O]at h;simp only[a2V];have hi:=hv.1 i;cases e1:decide ((a2B iv i).2≤c)with
  |true=>simp only[e1]at h;have:=of_decide_eq_true e1;rw[if_pos (by omega)];exact a3B h hv
  |false=>cases e2:decide (c<(a2B iv i).1)with
   |true=>simp only[e1,e2]at h;have:=of_decide_eq_true e2;rw[if_neg (by omega)];exact a3B h hv
   |false=>
    simp only[e1,e2]at h;split at h
    ·rename_i h1;split
     ·exact a3B h1 (hv.hi ‹_›)
     ·exact a3B h (hv.lo (by omega))
    ·cases h
 |.rel k i j l r,iv,rs,h,hv=>by
  simp only[c1O]at h;simp only[a2V];split at h
  ·rename_i h1;rw[if_pos (of_decide_eq_true (b6j hv h1))];exact a3B h hv
  ·rename_i h1;rw[if_neg (of_decide_eq_false (b6j hv h1))];exact a3B h hv
  ·split at h
   ·rename_i h1;split
    ·rename_i hlt;have hv':=hv.relT hlt;cases e1:ivE (relT iv i j) i with
     |true=>exact(c2V hv' e1).elim
     |false=>cases e2:ivE (relT iv i j) j with
      |true=>exact(c2V hv' e2).elim
      |false=>simp only[e1,e2]at h1;exact a3B h1 hv'
    ·rename_i hlt;have hv':=hv.relF hlt;cases e1:ivE (relF iv i j) i with
     |true=>exact(c2V hv' e1).elim
     |false=>cases e2:ivE (relF iv i j) j with
      |true=>exact(c2V hv' e2).elim
      |false=>simp only[e1,e2]at h;exact a3B h hv'
   ·cases h
end
end
end Go.Ev
